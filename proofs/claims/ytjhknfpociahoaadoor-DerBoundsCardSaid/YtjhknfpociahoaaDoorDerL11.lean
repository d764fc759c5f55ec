import Derived.Test.YtjhknfpociahoaaDoorDerL10
namespace Go.Proofs.YtjhknfpociahoaaDoor
open Go Go.HW Go.RowKit
set_option linter.unusedVariables false
set_option linter.unusedSimpArgs false

/-! ### arcs are read -/
def accD (x b : Int) : Int := (if 1099511627776 < x then 1099511627776 else x) * 128 + b % 128
def accR (x b : Int) : Int := (x % 1125899906842624) * 128 + b % 128
def stD (s : List Int × Int) (b : Int) : List Int × Int := if b < 128 then (s.1 ++ [accD s.2 b], 0) else (s.1, accD s.2 b)
def first2 (v : Int) : List Int := [if 2 < v / 40 then 2 else v / 40, v - 40 * (if 2 < v / 40 then 2 else v / 40)]
def pushR (y : List Int) (v : Int) : List Int := if y.length = 0 then first2 v else y ++ [v]
def stR (s : List Int × Int) (b : Int) : List Int × Int := if b < 128 then (pushR s.1 (accR s.2 b), 0) else (s.1, accR s.2 b)
theorem and127b_all : ∀ b : Fin 256, iand .u8 (b.val : Int) 127 = ((b.val % 128 : Nat) : Int) := by decide +kernel
theorem and127b {b : Int} (h0 : 0 ≤ b) (h1 : b ≤ 255) : iand .u8 b 127 = b % 128 := by
  have := and127b_all ⟨b.toNat, by omega⟩
  simp only at this
  rw [show ((b.toNat : Nat) : Int) = b by omega] at this
  rw [this]; omega
theorem or7 (t r : Int) (h0 : 0 ≤ t) (h1 : t ≤ 1099511627776) (g0 : 0 ≤ r) (g1 : r < 128) : ior .u64 (ishl .u64 t 7) r = t * 128 + r := by
  unfold ior ishl
  rw [show IntKind.u64.bits = 64 from rfl, show min (7 : Int).toNat 64 = 7 from rfl]
  have e1 : (BitVec.ofInt 64 (IntKind.u64.wrap (t * 2 ^ 7))).toNat = 128 * t.toNat := by rw [BitVec.toNat_ofInt, IntKind.wrap_u64]; omega
  have e2 : (BitVec.ofInt 64 r).toNat = r.toNat := by rw [BitVec.toNat_ofInt]; omega
  have e3 : (BitVec.ofInt 64 (IntKind.u64.wrap (t * 2 ^ 7)) ||| BitVec.ofInt 64 r).toNat = 128 * t.toNat + r.toNat := by
    rw [BitVec.toNat_or, e1, e2]
    have := Nat.two_pow_add_eq_or_of_lt (i := 7) (b := r.toNat) (by omega) t.toNat
    rw [show (128 : Nat) = 2 ^ 7 from rfl, ← this]
  rw [e3, IntKind.wrap_u64]
  omega
theorem accD_range {x b : Int} (h0 : 0 ≤ x) : 0 ≤ accD x b ∧ accD x b ≤ 18446744073709551615 := by unfold accD; split <;> omega
theorem accR_range {x b : Int} (h0 : 0 ≤ x) : 0 ≤ accR x b ∧ accR x b ≤ 18446744073709551615 := by unfold accR; omega
theorem darcs_L0 (a : List Int) (ha : U8L a) (hl : a.length ≤ 1048576) : ∀ (d i k : Nat) (y : List Int) (x : Int), i + d = a.length → d < k → 0 ≤ x → y.length + d ≤ 1099511627776 → der_arcs.L0 a k y x (i : Int) = some ((a.drop i).foldl stD (y, x)).1
  | 0, i, k, y, x, h, hk, hx, hy => by
    obtain ⟨k, rfl⟩ : ∃ q, k = q + 1 := ⟨k - 1, by omega⟩
    rw [List.drop_eq_nil_of_le (by omega), der_arcs.L0]
    have c : ¬ (i : Int) < a.length := by omega
    simp [c]
  | d + 1, i, k, y, x, h, hk, hx, hy => by
    obtain ⟨k, rfl⟩ : ∃ q, k = q + 1 := ⟨k - 1, by omega⟩
    have hb := u8_at ha i
    have c : (i : Int) < a.length := by omega
    have hs := suc (show i < a.length by omega) hl
    rw [drop_cons (by omega), List.foldl_cons, der_arcs.L0]
    have e := and127b hb.1 hb.2
    have eo : ior .u64 (ishl .u64 (if 1099511627776 < x then 1099511627776 else x) 7) (a.getD i 0 % 128) = accD x (a.getD i 0) := by
      rw [or7 _ _ (by split <;> omega) (by split <;> omega) (by omega) (by omega)]; rfl
    simp only [c, decide_true, if_true, nmE, Int.toNat_natCast, e, wu64 (n := a.getD i 0 % 128) (by omega) (by omega), eo, hs, reqTT]
    rw [rq (by omega)]
    by_cases c8 : a.getD i 0 < 128
    · have es : stD (y, x) (a.getD i 0) = (y ++ [accD x (a.getD i 0)], 0) := if_pos c8
      rw [es, ← darcs_L0 a ha hl d (i + 1) k _ 0 (by omega) (by omega) (by omega) (by simp; omega)]
      simp only [c8, decide_true, if_true]
      rw [rq (by simp; omega)]; rfl
    · have es : stD (y, x) (a.getD i 0) = (y, accD x (a.getD i 0)) := if_neg c8
      rw [es, ← darcs_L0 a ha hl d (i + 1) k _ _ (by omega) (by omega) (accD_range hx).1 (by omega)]
      simp only [c8, decide_false, Bool.false_eq_true, if_false]; rfl
theorem stD_len : ∀ (l : List Int) (s : List Int × Int), (l.foldl stD s).1.length ≤ s.1.length + l.length
  | [], s => by simp
  | b :: r, s => by
    rw [List.foldl_cons]
    have := stD_len r (stD s b)
    have h2 : (stD s b).1.length ≤ s.1.length + 1 := by unfold stD; split <;> simp
    simp only [List.length_cons]; omega
theorem stD_ok : ∀ (l : List Int) (s : List Int × Int), U64L s.1 → 0 ≤ s.2 → U64L (l.foldl stD s).1
  | [], s, h, _ => h
  | b :: r, s, h, h0 => by
    rw [List.foldl_cons]
    refine stD_ok r _ ?_ ?_
    · unfold stD
      split
      · intro z hz
        rcases List.mem_append.1 hz with hz | hz
        · exact h z hz
        · rw [List.mem_singleton.1 hz]; exact accD_range h0
      · exact h
    · unfold stD
      split
      · exact Int.le_refl _
      · exact (accD_range h0).1
theorem first2_ok {v : Int} (h0 : 0 ≤ v) (h1 : v ≤ 18446744073709551615) : U64L (first2 v) := by
  intro z hz
  unfold first2 at hz
  simp only [List.mem_cons, List.mem_nil_iff, or_false] at hz
  rcases hz with rfl | rfl <;> split <;> omega
def arcsD (b : List Int) : List Int := match (b.foldl stD ([], 0)).1 with
  | [] => []
  | v :: r => first2 v ++ r
def arcsR (b : List Int) : List Int := (b.foldl stR ([], 0)).1
theorem darcs_eq (a : List Int) (ha : U8L a) (hl : a.length ≤ 1048576) : der_arcs.f a = some (arcsD a) := by
  unfold der_arcs.f arcsD
  have h1 : der_arcs.L0 a (a.length + 1) [] 0 0 = some ((a.drop 0).foldl stD ([], 0)).1 := darcs_L0 a ha hl a.length 0 (a.length + 1) [] 0 (by omega) (by omega) (by omega) (by simp; omega)
  have h2 := stD_len a ([], 0)
  have h3 := stD_ok a ([], 0) (fun z hz => by cases hz) (Int.le_refl _)
  rw [Int.toNat_natCast, h1]
  simp only [List.drop_zero, Option.bind_some]
  generalize (a.foldl stD ([], 0)).1 = z at *
  cases z with
  | nil => simp
  | cons v r =>
    have hv := h3 v (by simp)
    simp only [List.length_cons, List.length_nil] at h2
    have hc : (((v :: r).length : Int) == 0) = false := by rw [beq_eq_false_iff_ne]; simp; omega
    have e1 : Int.tdiv v 40 = v / 40 := Int.tdiv_eq_ediv_of_nonneg hv.1
    simp only [hc, Bool.false_eq_true, if_false, nmE, show (0 : Int).toNat = 0 from rfl, show (1 : Int).toNat = 1 from rfl, show (v :: r).getD 0 0 = v from rfl, e1, wu64 (n := v / 40) (by omega) (by omega)]
    have e2 : IntKind.u64.wrap (40 * (if 2 < v / 40 then 2 else v / 40)) = 40 * (if 2 < v / 40 then 2 else v / 40) := by split <;> exact wu64 (by omega) (by omega)
    have e3 : IntKind.u64.wrap (v - 40 * (if 2 < v / 40 then 2 else v / 40)) = v - 40 * (if 2 < v / 40 then 2 else v / 40) := by split <;> exact wu64 (by omega) (by omega)
    rw [e2, e3, rq (by simp), rq (by simp; omega), rq (by simp; omega)]
    rfl
theorem arcsD_ok (a : List Int) (ha : U8L a) : U64L (arcsD a) ∧ (arcsD a).length ≤ a.length + 1 := by
  have h2 := stD_len a ([], 0)
  have h3 := stD_ok a ([], 0) (fun z hz => by cases hz) (Int.le_refl _)
  unfold arcsD
  generalize (a.foldl stD ([], 0)).1 = z at *
  cases z with
  | nil => exact ⟨fun x hx => (by cases hx), by simp⟩
  | cons v r =>
    have hv := h3 v (by simp)
    refine ⟨fun x hx => ?_, ?_⟩
    · rcases List.mem_append.1 hx with hx | hx
      · exact first2_ok hv.1 hv.2 x hx
      · exact h3 x (by simp [hx])
    · simp [first2] at h2 ⊢; omega

theorem rarcs_L0 (a : List Int) (ha : U8L a) (hl : a.length ≤ 1048576) : ∀ (d i k : Nat) (y : List Int) (x : Int), i + d = a.length → d < k → 0 ≤ x → x ≤ 18446744073709551615 → y.length + d + 1 ≤ 1099511627776 → ref13_arcs.L0 a k y x (i : Int) = some ((a.drop i).foldl stR (y, x)).1
  | 0, i, k, y, x, h, hk, hx, hx1, hy => by
    obtain ⟨k, rfl⟩ : ∃ q, k = q + 1 := ⟨k - 1, by omega⟩
    rw [List.drop_eq_nil_of_le (by omega), ref13_arcs.L0]
    have c : ¬ (i : Int) < a.length := by omega
    simp [c]
  | d + 1, i, k, y, x, h, hk, hx, hx1, hy => by
    obtain ⟨k, rfl⟩ : ∃ q, k = q + 1 := ⟨k - 1, by omega⟩
    have hb := u8_at ha i
    have c : (i : Int) < a.length := by omega
    have hs := suc (show i < a.length by omega) hl
    have hr := accR_range (x := x) (b := a.getD i 0) hx
    rw [drop_cons (by omega), List.foldl_cons, ref13_arcs.L0]
    have e1 : Int.tmod x 1125899906842624 = x % 1125899906842624 := Int.tmod_eq_emod_of_nonneg hx
    have e2 : Int.tmod (a.getD i 0) 128 = a.getD i 0 % 128 := Int.tmod_eq_emod_of_nonneg hb.1
    have e3 : IntKind.u64.wrap (IntKind.u64.wrap (x % 1125899906842624 * 128) + IntKind.u64.wrap (a.getD i 0 % 128)) = accR x (a.getD i 0) := by
      rw [wu64 (n := x % 1125899906842624 * 128) (by omega) (by omega), wu64 (n := a.getD i 0 % 128) (by omega) (by omega)]
      exact wu64 (by omega) (by unfold accR at hr; omega)
    simp only [c, decide_true, if_true, nmE, Int.toNat_natCast, e1, e2, e3, hs, reqTT]
    rw [rq (by omega)]
    by_cases c8 : a.getD i 0 < 128
    · have es : stR (y, x) (a.getD i 0) = (pushR y (accR x (a.getD i 0)), 0) := if_pos c8
      have c8' : ¬ (128 : Int) ≤ a.getD i 0 := by omega
      simp only [c8', decide_false, Bool.false_eq_true, if_false]
      generalize accR x (a.getD i 0) = v at *
      by_cases cy : y.length = 0
      · have cy' : ((y.length : Int) == 0) = true := by rw [beq_iff_eq]; omega
        have e4 : Int.tdiv v 40 = v / 40 := Int.tdiv_eq_ediv_of_nonneg hr.1
        have e5 : IntKind.u64.wrap (40 * (if 2 < v / 40 then 2 else v / 40)) = 40 * (if 2 < v / 40 then 2 else v / 40) := by split <;> exact wu64 (by omega) (by omega)
        have e6 : IntKind.u64.wrap (v - 40 * (if 2 < v / 40 then 2 else v / 40)) = v - 40 * (if 2 < v / 40 then 2 else v / 40) := by split <;> exact wu64 (by omega) (by omega)
        have ep : pushR y v = y ++ first2 v := by unfold pushR; rw [if_pos cy, List.eq_nil_of_length_eq_zero cy]; rfl
        rw [es, ep, ← rarcs_L0 a ha hl d (i + 1) k _ 0 (by omega) (by omega) (by omega) (by omega) (by unfold first2; simp; omega)]
        simp only [cy', if_true, e4, wu64 (n := v / 40) (by omega) (by omega), ite_some, decide_eq_true_eq, Option.bind_some, e5, e6]
        rw [rq (by simp; omega)]; rfl
      · have cy' : ((y.length : Int) == 0) = false := by rw [beq_eq_false_iff_ne]; omega
        have ep : pushR y v = y ++ [v] := by unfold pushR; rw [if_neg cy]
        rw [es, ep, ← rarcs_L0 a ha hl d (i + 1) k _ 0 (by omega) (by omega) (by omega) (by omega) (by simp; omega)]
        simp only [cy', Bool.false_eq_true, if_false]
        rw [rq (by simp; omega)]; rfl
    · have es : stR (y, x) (a.getD i 0) = (y, accR x (a.getD i 0)) := if_neg c8
      have c8' : (128 : Int) ≤ a.getD i 0 := by omega
      rw [es, ← rarcs_L0 a ha hl d (i + 1) k _ _ (by omega) (by omega) hr.1 hr.2 (by omega)]
      simp only [c8', decide_true, if_true]
theorem pushR_len (y : List Int) (v : Int) : (pushR y v).length ≤ y.length + 2 ∧ (y.length ≠ 0 → (pushR y v).length = y.length + 1) ∧ (pushR y v).length ≠ 0 := by
  unfold pushR first2
  by_cases h : y.length = 0
  · rw [if_pos h]; exact ⟨by show 2 ≤ _; omega, fun hh => absurd h hh, by show (2 : Nat) ≠ 0; decide⟩
  · rw [if_neg h, List.length_append]; exact ⟨by show _ + 1 ≤ _; omega, fun _ => rfl, by show _ + 1 ≠ 0; omega⟩
theorem stR_len : ∀ (l : List Int) (s : List Int × Int), (l.foldl stR s).1.length ≤ s.1.length + l.length + 1 ∧ (s.1.length ≠ 0 → (l.foldl stR s).1.length ≤ s.1.length + l.length)
  | [], s => by simp
  | b :: r, s => by
    rw [List.foldl_cons]
    have ih := stR_len r (stR s b)
    simp only [List.length_cons]
    by_cases c : b < 128
    · have es : (stR s b).1 = pushR s.1 (accR s.2 b) := by unfold stR; rw [if_pos c]
      have hp := pushR_len s.1 (accR s.2 b)
      rw [es] at ih
      have := ih.2 hp.2.2
      refine ⟨by omega, fun h => ?_⟩
      have := hp.2.1 h
      omega
    · have es : (stR s b).1 = s.1 := by unfold stR; rw [if_neg c]
      rw [es] at ih
      exact ⟨by omega, fun h => by have := ih.2 h; omega⟩
theorem stR_ok : ∀ (l : List Int) (s : List Int × Int), U64L s.1 → 0 ≤ s.2 → U64L (l.foldl stR s).1
  | [], s, h, _ => h
  | b :: r, s, h, h0 => by
    rw [List.foldl_cons]
    have hr := accR_range (x := s.2) (b := b) h0
    refine stR_ok r _ ?_ ?_
    · unfold stR
      split
      · unfold pushR
        split
        · exact first2_ok hr.1 hr.2
        · intro z hz
          rcases List.mem_append.1 hz with hz | hz
          · exact h z hz
          · rw [List.mem_singleton.1 hz]; exact hr
      · exact h
    · unfold stR
      split
      · exact Int.le_refl _
      · exact hr.1
theorem rarcs_eq (a : List Int) (ha : U8L a) (hl : a.length ≤ 1048576) : ref13_arcs.f a = some (arcsR a) := by
  unfold ref13_arcs.f arcsR
  have h1 : ref13_arcs.L0 a (a.length + 1) [] 0 0 = some ((a.drop 0).foldl stR ([], 0)).1 := rarcs_L0 a ha hl a.length 0 (a.length + 1) [] 0 (by omega) (by omega) (by omega) (by omega) (by simp; omega)
  rw [Int.toNat_natCast, h1]
  rfl
theorem arcsR_ok (a : List Int) (ha : U8L a) : U64L (arcsR a) ∧ (arcsR a).length ≤ a.length + 1 := by
  have h2 := (stR_len a ([], 0)).1
  have h3 := stR_ok a ([], 0) (fun z hz => by cases hz) (Int.le_refl _)
  have h2' : (arcsR a).length ≤ 0 + a.length + 1 := h2
  exact ⟨h3, by omega⟩

/-! ### arcs that were packed -/
theorem hi7_D (y : List Int) : ∀ k n, n < 128 ^ k → n < 2 ^ 33 → (hi7 k n).foldl stD (y, 0) = (y, (n : Int))
  | 0, n, h, _ => by have : n = 0 := by simpa using h
                     subst this; rfl
  | k + 1, n, h, hn => by
    unfold hi7
    split
    · subst_vars; rfl
    · rw [List.foldl_append, hi7_D y k (n / 128) (by rw [Nat.pow_succ] at h; omega) (by omega), List.foldl_cons, List.foldl_nil]
      unfold stD accD
      rw [if_neg (by omega)]
      simp only [Prod.mk.injEq, true_and]
      split <;> omega
theorem grp_D (y : List Int) (n : Nat) (hn : n < 2 ^ 33) : (grp n).foldl stD (y, 0) = (y ++ [(n : Int)], 0) := by
  unfold grp
  rw [List.foldl_append, hi7_D y 10 (n / 128) (by omega) (by omega), List.foldl_cons, List.foldl_nil]
  unfold stD accD
  rw [if_pos (by omega)]
  simp only [Prod.mk.injEq, and_true, List.append_cancel_left_eq, List.cons.injEq]
  split <;> omega
theorem hi7_R (y : List Int) : ∀ k n, n < 128 ^ k → n < 2 ^ 33 → (hi7 k n).foldl stR (y, 0) = (y, (n : Int))
  | 0, n, h, _ => by have : n = 0 := by simpa using h
                     subst this; rfl
  | k + 1, n, h, hn => by
    unfold hi7
    split
    · subst_vars; rfl
    · rw [List.foldl_append, hi7_R y k (n / 128) (by rw [Nat.pow_succ] at h; omega) (by omega), List.foldl_cons, List.foldl_nil]
      unfold stR accR
      rw [if_neg (by omega)]
      simp only [Prod.mk.injEq, true_and]
      omega
theorem grp_R (y : List Int) (n : Nat) (hn : n < 2 ^ 33) : (grp n).foldl stR (y, 0) = (pushR y (n : Int), 0) := by
  unfold grp
  rw [List.foldl_append, hi7_R y 10 (n / 128) (by omega) (by omega), List.foldl_cons, List.foldl_nil]
  unfold stR accR
  rw [if_pos (by omega)]
  simp only [Prod.mk.injEq, and_true]
  congr 1
  omega
theorem flat_D : ∀ (xs y : List Int), (∀ x ∈ xs, 0 ≤ x ∧ x < 2147483648) → (xs.flatMap fun x => grp x.toNat).foldl stD (y, 0) = (y ++ xs, 0)
  | [], y, _ => by simp
  | x :: r, y, h => by
    have hx := h x (by simp)
    rw [List.flatMap_cons, List.foldl_append, grp_D y _ (by omega), flat_D r _ fun z hz => h z (by simp [hz]), show ((x.toNat : Nat) : Int) = x by omega]
    simp
theorem flat_R : ∀ (xs y : List Int), y.length ≠ 0 → (∀ x ∈ xs, 0 ≤ x ∧ x < 2147483648) → (xs.flatMap fun x => grp x.toNat).foldl stR (y, 0) = (y ++ xs, 0)
  | [], y, _, _ => by simp
  | x :: r, y, hy, h => by
    have hx := h x (by simp)
    have ep : pushR y ((x.toNat : Nat) : Int) = y ++ [x] := by unfold pushR; rw [if_neg hy, show ((x.toNat : Nat) : Int) = x by omega]
    rw [List.flatMap_cons, List.foldl_append, grp_R y _ (by omega), ep, flat_R r _ (by simp) fun z hz => h z (by simp [hz])]
    simp
theorem two_drop {a : List Int} (h : 2 ≤ a.length) : a = [a.getD 0 0, a.getD 1 0] ++ a.drop 2 := by
  match a, h with
  | x :: y :: r, _ => rfl
theorem oid_first {a : List Int} (h : arcsB a = true) (h64 : U64L a) : first2 ((40 * (a.getD 0 0).toNat + (a.getD 1 0).toNat : Nat) : Int) = [a.getD 0 0, a.getD 1 0] ∧ 40 * (a.getD 0 0).toNat + (a.getD 1 0).toNat < 2 ^ 33 ∧ ∀ x ∈ a.drop 2, 0 ≤ x ∧ x < 2147483648 := by
  obtain ⟨h2, h16, h0, h40, hx⟩ := arcs_two h
  have b0 := h64 _ (getD_mem (d := 0) (show 0 < a.length by omega))
  have b1 := h64 _ (getD_mem (d := 0) (show 1 < a.length by omega))
  have c1 := hx _ (getD_mem (d := 0) (show 1 < a.length by omega))
  refine ⟨?_, by omega, fun x hm => ⟨(h64 x (List.mem_of_mem_drop hm)).1, hx x (List.mem_of_mem_drop hm)⟩⟩
  unfold first2
  generalize a.getD 0 0 = p at *
  generalize a.getD 1 0 = q at *
  have e : (if 2 < ((40 * p.toNat + q.toNat : Nat) : Int) / 40 then 2 else ((40 * p.toNat + q.toNat : Nat) : Int) / 40) = p := by split <;> omega
  rw [e]
  simp only [List.cons.injEq, and_true, true_and]
  omega
theorem arcsD_oid {a : List Int} (h : arcsB a = true) (h64 : U64L a) : arcsD (oidC a) = a := by
  obtain ⟨e1, hn, hx⟩ := oid_first h h64
  unfold arcsD oidC
  rw [List.foldl_append, grp_D [] _ hn, flat_D _ _ hx]
  simp only [List.nil_append, List.cons_append]
  rw [e1]
  exact (two_drop (arcs_two h).1).symm
theorem arcsR_oid {a : List Int} (h : arcsB a = true) (h64 : U64L a) : arcsR (oidC a) = a := by
  obtain ⟨e1, hn, hx⟩ := oid_first h h64
  unfold arcsR oidC
  rw [List.foldl_append, grp_R [] _ hn, show pushR [] ((40 * (a.getD 0 0).toNat + (a.getD 1 0).toNat : Nat) : Int) = [a.getD 0 0, a.getD 1 0] from e1, flat_R _ _ (by simp) hx]
  exact (two_drop (arcs_two h).1).symm
end Go.Proofs.YtjhknfpociahoaaDoor
