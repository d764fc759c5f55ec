import Derived.Test.YtjhknfpociahoaaDoorDerL12
namespace Go.Proofs.YtjhknfpociahoaaDoor
open Go Go.HW Go.RowKit
set_option linter.unusedVariables false
set_option linter.unusedSimpArgs false

/-! ### the reference reads -/
theorem conj_some (a b : Bool) : (if a = true then some b else some false) = some (a && b) := by cases a <;> rfl
def cOf (b : List Int) (f n : Nat) : List Int := (b.drop f).take n
theorem headL_pos {b : List Int} {f n : Nat} (hb : U8L b) (h : headL b = some (f, n)) : 2 ≤ f ∧ f ≤ b.length ∧ n ≤ 65535 := by
  have h1 := u8_at hb 1
  have h2 := u8_at hb 2
  have h3 := u8_at hb 3
  unfold headL at h
  split at h
  · cases h
  · split at h
    · rename_i c; cases h; omega
    · split at h
      · rename_i c; cases h; omega
      · split at h
        · cases h
        · cases h; omega
theorem rF_eq (r : List Int → Int → Option (Der × Int × Bool)) (b : List Int) (hb : U8L b) (hl : b.length ≤ 1048576) (d : Int) (hd : 1 ≤ d) (f n : Nat) (hh : headL b = some (f, n)) (hfn : f + n ≤ b.length) :
    ref13_read.F r b d = if kOf (b.getD 0 0) = 7 ∨ kOf (b.getD 0 0) = 8 ∨ kOf (b.getD 0 0) = 9 then onw (ref13_read.L1 r d (kOf (b.getD 0 0)) (nOf (b.getD 0 0)) ((cOf b f n).length + 1) [] (cOf b f n)) (fun ks => some (Der.mk (kOf (b.getD 0 0)) false (nOf (b.getD 0 0)) [] [] [] ks, ((f + n : Nat) : Int), true)) (fun r => some r)
      else some (leafR (kOf (b.getD 0 0)) (nOf (b.getD 0 0)) (cOf b f n), ((f + n : Nat) : Int), kOf (b.getD 0 0) != 0) := by
  obtain ⟨hf2, hfl, hn⟩ := headL_pos hb hh
  have hb0 := u8_at hb 0
  have hc : U8L (cOf b f n) := fun x hx => hb x (List.mem_of_mem_drop (List.mem_of_mem_take hx))
  have hcl : (cOf b f n).length = n := by unfold cOf; simp; omega
  unfold ref13_read.F
  rw [rhead_eq b hb hl, hh]
  have d1 : ¬ d < 1 := by omega
  simp only [Option.bind_some, hfn, decide_true, Bool.not_true, Bool.false_eq_true, if_false, d1, decide_false, nmE]
  rw [rq (by omega), rq (by omega), rq (by omega), rkind b hb (by omega)]
  rw [show ((f : Nat) : Int).toNat = f from Int.toNat_natCast f, show ((f + n : Nat) : Int).toNat = f + n from Int.toNat_natCast _, show f + n - f = n by omega, show (0 : Int).toNat = 0 from rfl, show (1 : Int).toNat = 1 from rfl]
  rw [show (b.drop f).take n = cOf b f n from rfl]
  simp only [Option.bind_some]
  rw [rq (by omega)]
  rw [w64 (n := b.getD 0 0) (by omega) (by omega), w64 (n := b.getD 0 0 - 160) (by omega) (by omega)]
  have ek : (if decide (160 ≤ b.getD 0 0) = true then some (decide (b.getD 0 0 ≤ 190)) else some false).bind (fun q126 => if q126 = true then some ((8 : Int), b.getD 0 0 - 160) else some (tblK (b.getD 0 0), 0)) = some (kOf (b.getD 0 0), nOf (b.getD 0 0)) := by
    rw [conj_some, Option.bind_some]
    unfold kOf nOf
    by_cases c : 160 ≤ b.getD 0 0 ∧ b.getD 0 0 ≤ 190
    · rw [if_pos c, if_pos c, if_pos (by rw [Bool.and_eq_true, decide_eq_true_eq, decide_eq_true_eq]; exact c)]
    · rw [if_neg c, if_neg c, if_neg (fun h => c (by rwa [Bool.and_eq_true, decide_eq_true_eq, decide_eq_true_eq] at h))]
  have eb : ∀ (g : Int × Int → Option (Der × Int × Bool)), ((if decide (160 ≤ b.getD 0 0) = true then some (decide (b.getD 0 0 ≤ 190)) else some false).bind fun q126 => (if q126 = true then some ((8 : Int), b.getD 0 0 - 160) else some (tblK (b.getD 0 0), 0)).bind g) = g (kOf (b.getD 0 0), nOf (b.getD 0 0)) := fun g => by
    rw [← Option.bind_assoc, ek]; rfl
  rw [eb]
  have hkr := kOf_range (b.getD 0 0)
  rw [rnum_eq _ hc (by omega), rarcs_eq _ hc (by omega)]
  have har := arcsR_ok _ hc
  simp only [Option.bind_some]
  generalize kOf (b.getD 0 0) = K at *
  generalize nOf (b.getD 0 0) = N at *
  generalize hcd : cOf b f n = c at *
  rw [Int.toNat_natCast]
  have er1 : (if ((c.length : Int) == 1) = true then req ((0 : Int) < c.length) (some (c.getD 0 0 == 255)) else some false) = some (decide (c.length = 1) && c.getD 0 0 == 255) := by
    by_cases h1 : c.length = 1
    · rw [if_pos (beq_iff_eq.2 (by omega)), rq (by omega)]; simp [h1]
    · rw [if_neg (fun h => h1 (by have := beq_iff_eq.1 h; omega))]; simp [h1]
  have er3 : (if decide ((0 : Int) < c.length) = true then req ((1 : Int) ≤ c.length) (some (c.drop 1)) else some []) = some (c.drop 1) := by
    by_cases h1 : 0 < c.length
    · rw [if_pos (decide_eq_true (by omega)), rq (by omega)]
    · rw [if_neg (fun h => h1 (by have := of_decide_eq_true h; omega)), List.drop_eq_nil_of_le (by omega)]
  rw [er1, er3, rq (show (arcsR c).length ≤ 1099511627776 by omega)]
  simp only [Option.bind_some]
  unfold leafR
  rcases (show K = 0 ∨ K = 1 ∨ K = 2 ∨ K = 3 ∨ K = 4 ∨ K = 5 ∨ K = 6 ∨ K = 7 ∨ K = 8 ∨ K = 9 ∨ K = 10 by omega) with h | h | h | h | h | h | h | h | h | h | h <;> subst h <;> rfl
end Go.Proofs.YtjhknfpociahoaaDoor
