import Derived.Test.YtlpodhejgcmbpaaShTab
import Derived.Test.YtlpodhejgcmbpaaShLaw1
namespace Go.Proofs.Ytlpodhejgcmbpaa
open Go Go.HW Go.RowKit
set_option linter.unusedVariables false
set_option linter.unusedSimpArgs false

theorem known_eq : law05_known.f = some true := by
  unfold law05_known.f sha_Sum.f
  rw [all_eq]
  kernel_rfl
theorem const_in (i : Nat) (h : i < 80) : sha_Constant.f (i : Int) = some (KL.getD i 0) := by
  unfold sha_Constant.f
  rw [all_eq]
  have h1 : ¬ ((i : Int) < 0) := by omega
  have h2 : ¬ ((80 : Int) ≤ i) := by omega
  simp only [h1, h2, decide_false, Bool.false_eq_true, if_false, Option.bind_some]
  rw [rq (by omega), rq (by omega), Int.toNat_natCast, tab_k]
theorem const_out (i : Int) (h : ¬ (0 ≤ i ∧ i < 80)) : sha_Constant.f i = some 0 := by
  unfold sha_Constant.f
  by_cases h1 : i < 0
  · simp [h1]
  · have h2 : 80 ≤ i := by omega
    simp [h1, h2]
theorem tab_s (n : Nat) (h : n < 8) : TAB.getD n 0 = STL.getD n 0 := by
  unfold TAB
  rw [List.getD_eq_getElem?_getD, List.getD_eq_getElem?_getD, List.getElem?_append_left (by rw [stl_len]; omega)]
theorem start_in (i : Nat) (h : i < 8) : sha_Start.f (i : Int) = some (STL.getD i 0) := by
  unfold sha_Start.f
  rw [all_eq]
  have h1 : ¬ ((i : Int) < 0) := by omega
  have h2 : ¬ ((8 : Int) ≤ i) := by omega
  simp only [h1, h2, decide_false, Bool.false_eq_true, if_false, Option.bind_some]
  rw [rq (by omega), rq (by omega), Int.toNat_natCast, Nat.zero_add, tab_s i h]
theorem start_out (i : Int) (h : ¬ (0 ≤ i ∧ i < 8)) : sha_Start.f i = some 0 := by
  unfold sha_Start.f
  by_cases h1 : i < 0
  · simp [h1]
  · have h2 : 8 ≤ i := by omega
    simp [h1, h2]
theorem const_loop : ∀ (m i k : Nat), 80 - i ≤ m → m < k → i ≤ 80 → law05_ShaConstants.L0 (STL, KL) k (i : Int) = some (.inl ())
  | m, i, 0, _, hk, _ => by omega
  | m, i, k + 1, hm, hk, hi => by
    unfold law05_ShaConstants.L0
    have e1 : (KL.length : Int) = 80 := by rw [kl_len]; rfl
    have e2 : (STL.length : Int) = 8 := by rw [stl_len]; rfl
    have ek : Begun.k (STL, KL) = KL := rfl
    have es : Begun.start (STL, KL) = STL := rfl
    by_cases c : i < 80
    · rw [if_pos (by simp; omega), const_in i c, w64 (n := (i : Int) + 1) (by omega) (by omega)]
      simp only [Option.bind_some, ek, es, e1, e2, Int.toNat_natCast, bne_self_eq_false, Bool.false_eq_true, if_false]
      rw [rq (by omega), rq (by omega)]
      by_cases c8 : i < 8
      · rw [if_pos (by simp; omega), start_in i c8]
        simp only [Option.bind_some, bne_self_eq_false, Bool.false_eq_true, if_false]
        rw [rq (by omega)]
        simp only [Option.bind_some, Bool.false_eq_true, if_false]
        exact const_loop (m - 1) (i + 1) k (by omega) (by omega) (by omega)
      · rw [if_neg (by simp; omega)]
        simp only [Option.bind_some, Bool.false_eq_true, if_false]
        exact const_loop (m - 1) (i + 1) k (by omega) (by omega) (by omega)
    · rw [if_neg (by simp; omega)]
theorem ShaConstants_law (i : Int) : law05_ShaConstants.f i = some true := by
  unfold law05_ShaConstants.f
  rw [begin_eq, Option.bind_some, show law05_ShaConstants.L0 (STL, KL) 81 0 = some (.inl ()) from const_loop 80 0 81 (by omega) (by omega) (by omega), known_eq]
  unfold onw
  simp only
  by_cases h0 : 0 ≤ i
  · by_cases h8 : i < 8
    · have h80 : i < 80 := by omega
      simp [h0, h8, h80]
    · rw [start_out i (by omega)]
      by_cases h80 : i < 80
      · simp [h0, h8, h80]
      · rw [const_out i (by omega)]
        simp [h0, h8, h80]
  · rw [start_out i (by omega), const_out i (by omega)]
    simp [h0]
end Go.Proofs.Ytlpodhejgcmbpaa
