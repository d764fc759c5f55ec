import Derived.Test.YtlpodhejgcmbpaaShTabA
namespace Go.Proofs.Ytlpodhejgcmbpaa
open Go Go.HW Go.RowKit
set_option linter.unusedVariables false
set_option linter.unusedSimpArgs false

/-! ### small things -/
theorem rq {α : Type} {p : Prop} [Decidable p] {x : Option α} (h : p) : req p x = x := if_pos h
@[simp] theorem nmE {α β : Type} (x : α) (f : α → Option β) : nm x f = f x := rfl
theorem w64 {n : Int} (h0 : -9223372036854775808 ≤ n) (h1 : n ≤ 9223372036854775807) : IntKind.i64.wrap n = n := IntWalk.i64_in n ⟨h0, h1⟩
theorem wu64 {n : Int} (h0 : 0 ≤ n) (h1 : n ≤ 18446744073709551615) : IntKind.u64.wrap n = n := IntWalk.u64_in n ⟨h0, h1⟩
theorem td (a b : Nat) : Int.tdiv (a : Int) (b : Int) = ((a / b : Nat) : Int) := rfl
theorem tm (a b : Nat) : Int.tmod (a : Int) (b : Int) = ((a % b : Nat) : Int) := rfl
def U8L (xs : List Int) : Prop := ∀ x ∈ xs, 0 ≤ x ∧ x ≤ 255
theorem reqTT {α : Type} (x : Option α) : req True x = x := if_pos trivial

/-! ### turns -/
def rr (x : Int) (n : Nat) : Int := ior .u64 (ishl .u64 x (64 - n)) (ishr .u64 x n)
theorem ior_comm (k : IntKind) (a b : Int) : ior k a b = ior k b a := by unfold ior; rw [BitVec.or_comm]
theorem t1 (x : Int) : sha_turn.f x 1 = some (rr x 1) := by kernel_rfl
theorem t8 (x : Int) : sha_turn.f x 8 = some (rr x 8) := by kernel_rfl
theorem t19 (x : Int) : sha_turn.f x 19 = some (rr x 19) := by kernel_rfl
theorem t61 (x : Int) : sha_turn.f x 61 = some (rr x 61) := by kernel_rfl
theorem t14 (x : Int) : sha_turn.f x 14 = some (rr x 14) := by kernel_rfl
theorem t18 (x : Int) : sha_turn.f x 18 = some (rr x 18) := by kernel_rfl
theorem t41 (x : Int) : sha_turn.f x 41 = some (rr x 41) := by kernel_rfl
theorem t28 (x : Int) : sha_turn.f x 28 = some (rr x 28) := by kernel_rfl
theorem t34 (x : Int) : sha_turn.f x 34 = some (rr x 34) := by kernel_rfl
theorem t39 (x : Int) : sha_turn.f x 39 = some (rr x 39) := by kernel_rfl
theorem r_of {x : Int} {n : Int} {m : Nat} (h : ref05_ror.f x n = some (ior .u64 (ishr .u64 x m) (ishl .u64 x (64 - m)))) : ref05_ror.f x n = some (rr x m) := by rw [h, ior_comm]; rfl
theorem q1 (x : Int) : ref05_ror.f x 1 = some (rr x 1) := r_of (by kernel_rfl)
theorem q8 (x : Int) : ref05_ror.f x 8 = some (rr x 8) := r_of (by kernel_rfl)
theorem q19 (x : Int) : ref05_ror.f x 19 = some (rr x 19) := r_of (by kernel_rfl)
theorem q61 (x : Int) : ref05_ror.f x 61 = some (rr x 61) := r_of (by kernel_rfl)
theorem q14 (x : Int) : ref05_ror.f x 14 = some (rr x 14) := r_of (by kernel_rfl)
theorem q18 (x : Int) : ref05_ror.f x 18 = some (rr x 18) := r_of (by kernel_rfl)
theorem q41 (x : Int) : ref05_ror.f x 41 = some (rr x 41) := r_of (by kernel_rfl)
theorem q28 (x : Int) : ref05_ror.f x 28 = some (rr x 28) := r_of (by kernel_rfl)
theorem q34 (x : Int) : ref05_ror.f x 34 = some (rr x 34) := r_of (by kernel_rfl)
theorem q39 (x : Int) : ref05_ror.f x 39 = some (rr x 39) := r_of (by kernel_rfl)

/-! ### the two presses' loops -/
theorem sched_eq : ∀ (k : Nat) (i : Int) (y : List Int), sha_press.L2 k i y = ref05_Begun__Sum.L4 k i y
  | 0, _, _ => rfl
  | k + 1, i, y => by
    unfold sha_press.L2 ref05_Begun__Sum.L4
    simp only [t1, t8, t19, t61, q1, q8, q19, q61, Option.bind_some, sched_eq k]
theorem sched_tot : ∀ (m i k : Nat) (y : List Int), 80 - i ≤ m → m < k → 16 ≤ i → i ≤ 80 → y.length = 80 → ∃ z, ref05_Begun__Sum.L4 k (i : Int) y = some z ∧ z.length = 80
  | m, i, 0, y, _, hk, _, _, _ => by omega
  | m, i, k + 1, y, hm, hk, h16, h80, hy => by
    unfold ref05_Begun__Sum.L4
    by_cases c : i < 80
    · rw [if_pos (by simp; omega)]
      rw [w64 (n := (i : Int) - 15) (by omega) (by omega), w64 (n := (i : Int) - 2) (by omega) (by omega), w64 (n := (i : Int) - 16) (by omega) (by omega), w64 (n := (i : Int) - 7) (by omega) (by omega), w64 (n := (i : Int) + 1) (by omega) (by omega)]
      simp only [q1, q8, q19, q61, Option.bind_some, nmE]
      rw [rq (by omega), rq (by omega), rq (by omega), rq (by omega), rq (by omega), rq (by omega), rq (by omega), rq (by omega), rq (by omega), rq (by omega)]
      exact sched_tot (m - 1) (i + 1) k _ (by omega) (by omega) (by omega) (by omega) (by rw [List.length_set]; exact hy)
    · rw [if_neg (by simp; omega)]
      exact ⟨y, rfl, hy⟩
theorem kl_len : KL.length = 80 := by decide
theorem stl_len : STL.length = 8 := by decide
theorem tab_k (n : Nat) : TAB.getD (8 + n) 0 = KL.getD n 0 := by
  unfold TAB
  rw [List.getD_eq_getElem?_getD, List.getD_eq_getElem?_getD, List.getElem?_append_right (by rw [stl_len]; omega), stl_len]
  congr 2; omega
theorem rounds_eq (W : List Int) : ∀ (k : Nat) (i : Int) (y : List Int), sha_press.L3 TAB W k i y = ref05_Begun__Sum.L5 (STL, KL) W k i y
  | 0, _, _ => rfl
  | k + 1, i, y => by
    unfold sha_press.L3 ref05_Begun__Sum.L5
    have e : (KL.length : Int) = 80 := by rw [kl_len]; rfl
    simp only [t14, t18, t41, t28, t34, t39, q14, q18, q41, q28, q34, q39, Option.bind_some, rounds_eq W k, tab_k, e, nmE, show Begun.k (STL, KL) = KL from rfl]
    by_cases c : i < 80
    · simp only [rq c, e]
    · simp only [c, decide_false, Bool.false_eq_true, if_false]
theorem rounds_tot (W : List Int) : ∀ (m i k : Nat) (y : List Int), 80 - i ≤ m → m < k → i ≤ 80 → y.length = 8 → ∃ z, ref05_Begun__Sum.L5 (STL, KL) W k (i : Int) y = some z ∧ z.length = 8
  | m, i, 0, y, _, hk, _, _ => by omega
  | m, i, k + 1, y, hm, hk, h80, hy => by
    unfold ref05_Begun__Sum.L5
    have e : (KL.length : Int) = 80 := by rw [kl_len]; rfl
    by_cases c : i < 80
    · rw [if_pos (by simp; omega), w64 (n := (i : Int) + 1) (by omega) (by omega)]
      simp only [q14, q18, q41, q28, q34, q39, Option.bind_some, nmE, show Begun.k (STL, KL) = KL from rfl, e]
      rw [rq (by omega), rq (by omega), rq (by omega)]
      exact rounds_tot W (m - 1) (i + 1) k _ (by omega) (by omega) (by omega) rfl
    · rw [if_neg (by simp; omega)]
      exact ⟨y, rfl, hy⟩
theorem fin_eq (v : List Int) : ∀ (k : Nat) (i : Int) (y : List Int), sha_press.L4 v k i y = ref05_Begun__Sum.L6 v k i y
  | 0, _, _ => rfl
  | k + 1, i, y => by
    unfold sha_press.L4 ref05_Begun__Sum.L6
    simp only [fin_eq v k]
theorem fin_tot (v : List Int) : ∀ (m i k : Nat) (y : List Int), 8 - i ≤ m → m < k → i ≤ 8 → y.length = 8 → ∃ z, ref05_Begun__Sum.L6 v k (i : Int) y = some z ∧ z.length = 8
  | m, i, 0, y, _, hk, _, _ => by omega
  | m, i, k + 1, y, hm, hk, h80, hy => by
    unfold ref05_Begun__Sum.L6
    by_cases c : i < 8
    · rw [if_pos (by simp; omega), w64 (n := (i : Int) + 1) (by omega) (by omega)]
      simp only [nmE]
      rw [rq (by omega), rq (by omega)]
      exact fin_tot v (m - 1) (i + 1) k _ (by omega) (by omega) (by omega) (by rw [List.length_set]; exact hy)
    · rw [if_neg (by simp; omega)]
      exact ⟨y, rfl, hy⟩
end Go.Proofs.Ytlpodhejgcmbpaa
