import Derived.Test.YtjhknfpociahoaaDoorDerL1
namespace Go.Proofs.YtjhknfpociahoaaDoor
open Go Go.HW Go.RowKit
set_option linter.unusedVariables false
set_option linter.unusedSimpArgs false

def I64 (a : Int) : Prop := -9223372036854775808 ≤ a ∧ a ≤ 9223372036854775807
def uabs (a : Int) : Nat := if 0 ≤ a then a.toNat else (-a - 1).toNat
theorem xor_sign (a : Int) (h : I64 a) : IntKind.u64.wrap (ixor .i64 a (ishr .i64 a 63)) = ((uabs a : Nat) : Int) := by
  obtain ⟨h0, h1⟩ := h
  have hb : IntKind.i64.bits = 64 := rfl
  unfold ixor ishr uabs
  rw [hb, show min (63 : Int).toNat 64 = 63 from rfl]
  rcases Int.lt_or_le a 0 with hn | hn
  · have e : a.fdiv (2 ^ 63) = -1 := by rw [Int.fdiv_eq_ediv_of_nonneg _ (by decide)]; omega
    rw [e, if_neg (by omega), show BitVec.ofInt 64 (-1) = BitVec.allOnes 64 from by decide, BitVec.xor_allOnes, BitVec.toNat_not, BitVec.toNat_ofInt]
    rw [IntKind.wrap_i64, IntKind.wrap_u64]
    have : ((a % ((2 ^ 64 : Nat) : Int)).toNat : Int) = a + 18446744073709551616 := by omega
    omega
  · have e : a.fdiv (2 ^ 63) = 0 := by rw [Int.fdiv_eq_ediv_of_nonneg _ (by decide)]; omega
    rw [e, if_pos hn, show BitVec.ofInt 64 0 = 0#64 from rfl, BitVec.xor_zero, BitVec.toNat_ofInt]
    rw [IntKind.wrap_i64, IntKind.wrap_u64]
    have : ((a % ((2 ^ 64 : Nat) : Int)).toNat : Int) = a := by omega
    omega
theorem lenAux_lt : ∀ (f x : Nat), x < 2 ^ f → x < 2 ^ Lib.bitLenAux f x
  | 0, x, h => by simpa [Lib.bitLenAux] using h
  | f + 1, x, h => by
    unfold Lib.bitLenAux
    split
    · subst_vars; simp
    · have := lenAux_lt f (x / 2) (by rw [Nat.pow_succ] at h; omega)
      rw [Nat.add_comm 1, Nat.pow_succ]; omega
theorem len_iff (x k : Nat) (hk : k ≤ 64) (hx : x < 2 ^ 64) : Lib.bitLen x ≤ k ↔ x < 2 ^ k := by
  constructor
  · intro h
    exact Nat.lt_of_lt_of_le (lenAux_lt 64 x hx) (Nat.pow_le_pow_right (by omega) h)
  · exact Lib.bitLen_le x k hk
theorem fits_iff (a : Int) (s : Nat) (h1 : 1 ≤ s) (h8 : s ≤ 8) (h : I64 a) : fits a s ↔ Lib.bitLen (uabs a) ≤ 8 * s - 1 := by
  obtain ⟨h0, h2⟩ := h
  rw [len_iff _ _ (by omega) (by unfold uabs; split <;> omega)]
  unfold fits uabs
  have hp : (2 : Int) ^ (8 * s - 1) = ((2 ^ (8 * s - 1) : Nat) : Int) := by norm_cast
  rw [hp]
  generalize 2 ^ (8 * s - 1) = p
  split <;> omega
theorem szF_eq (a : Int) (h : I64 a) : ∀ k s, 1 ≤ s → s + k = 8 → Lib.bitLen (uabs a) ≤ 63 → 8 * (s - 1) ≤ Lib.bitLen (uabs a) → szF a k s = Lib.bitLen (uabs a) / 8 + 1
  | 0, s, h1, h8, hl, hs => by unfold szF; omega
  | k + 1, s, h1, h8, hl, hs => by
    unfold szF
    have hf := fits_iff a s h1 (by omega) h
    split
    · rename_i c; have := hf.1 c; omega
    · rename_i c
      have : ¬ Lib.bitLen (uabs a) ≤ 8 * s - 1 := fun x => c (hf.2 x)
      exact szF_eq a h k (s + 1) (by omega) (by omega) hl (by omega)
theorem uabs_lt (a : Int) (h : I64 a) : uabs a < 2 ^ 63 := by obtain ⟨h0, h1⟩ := h; unfold uabs; split <;> omega
theorem szN_eq (a : Int) (h : I64 a) : szN a = Lib.bitLen (uabs a) / 8 + 1 := by
  have hl : Lib.bitLen (uabs a) ≤ 63 := Lib.bitLen_le _ _ (by omega) (uabs_lt a h)
  exact szF_eq a h 7 1 (by omega) (by omega) hl (by omega)
theorem be_head : ∀ d m, be (d + 1) m = ((m / 256 ^ d % 256 : Nat) : Int) :: be d m
  | 0, m => by simp [be]
  | d + 1, m => by
    rw [be, be_head d (m / 256), be]
    rw [Nat.div_div_eq_div_mul, Nat.mul_comm 256, ← Nat.pow_succ]
    rfl
theorem digit (a : Int) (h : I64 a) (i : Nat) (hi : i ≤ 7) : IntKind.u8.wrap (ishr .i64 a ((8 * i : Nat) : Int)) = ((m64 a / 256 ^ i % 256 : Nat) : Int) := by
  obtain ⟨h0, h1⟩ := h
  unfold ishr m64
  rw [Int.toNat_natCast, show IntKind.i64.bits = 64 from rfl, Nat.min_eq_left (by omega), Int.fdiv_eq_ediv_of_nonneg _ (Int.le_of_lt (Int.pow_pos (by decide))), IntKind.wrap_u8]
  rcases (show i = 0 ∨ i = 1 ∨ i = 2 ∨ i = 3 ∨ i = 4 ∨ i = 5 ∨ i = 6 ∨ i = 7 by omega) with rfl | rfl | rfl | rfl | rfl | rfl | rfl | rfl <;> simp only [Nat.reduceMul, Int.reducePow, Nat.reducePow, Nat.pow_zero, Int.pow_zero, Nat.mul_zero] <;> omega
theorem dwhole_L0 (a : Int) (h : I64 a) : ∀ (d k : Nat) (y : List Int), d ≤ 8 → d < k → y.length + d ≤ 1099511627776 → der_whole.L0 a k y ((d : Int) - 1) = some (y ++ be d (m64 a))
  | 0, k, y, hd, hk, hl => by
    obtain ⟨k, rfl⟩ : ∃ q, k = q + 1 := ⟨k - 1, by omega⟩
    simp [der_whole.L0, be]
  | d + 1, k, y, hd, hk, hl => by
    obtain ⟨k, rfl⟩ : ∃ q, k = q + 1 := ⟨k - 1, by omega⟩
    unfold der_whole.L0
    have e1 : ((d + 1 : Nat) : Int) - 1 = (d : Int) := by omega
    have e2 : IntKind.i64.wrap (8 * (d : Int)) = ((8 * d : Nat) : Int) := by rw [w64 (by omega) (by omega)]; omega
    rw [e1, if_pos (by simp), e2, rq (by omega), nmE, digit a h d (by omega), rq (by simp; omega), w64 (by omega) (by omega), dwhole_L0 a h d k _ (by omega) (by omega) (by simp; omega), be_head]
    simp
theorem dwhole_eq (a : Int) (h : I64 a) : der_whole.f a = some (whl a) := by
  unfold der_whole.f
  have hl : Lib.bitLen (uabs a) ≤ 63 := Lib.bitLen_le _ _ (by omega) (uabs_lt a h)
  have hu := uabs_lt a h
  have hs := szN_eq a h
  have e : ((Lib.bitLen (uabs a) : Nat) : Int) + 8 = ((Lib.bitLen (uabs a) + 8 : Nat) : Int) := by omega
  have e2 : Int.tdiv ((Lib.bitLen (uabs a) + 8 : Nat) : Int) 8 = (((Lib.bitLen (uabs a) + 8) / 8 : Nat) : Int) := td _ 8
  have e3 : (Lib.bitLen (uabs a) + 8) / 8 = szN a := by omega
  have hz := szN_le a
  rw [xor_sign a h]
  simp only [nmE, len64, Int.toNat_natCast]
  have e4 : IntKind.i64.wrap ((Lib.bitLen (uabs a) + 8 : Nat) : Int) = ((Lib.bitLen (uabs a) + 8 : Nat) : Int) := w64 (by omega) (by omega)
  have e5 : IntKind.i64.wrap ((szN a : Nat) : Int) = ((szN a : Nat) : Int) := w64 (by omega) (by omega)
  have e6 : IntKind.i64.wrap (((szN a : Nat) : Int) - 1) = ((szN a : Nat) : Int) - 1 := w64 (by omega) (by omega)
  rw [rq (by omega), rq (by omega), e, e4, e2, e3, e5, e6, dwhole_L0 a h (szN a) _ _ (by omega) (by omega) (by simp; omega)]
  simp [whl]
end Go.Proofs.YtjhknfpociahoaaDoor
