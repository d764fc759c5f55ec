import Derived.Test.YtbnmoonelaolcaaPq1
namespace Go.Proofs.Ytbnmoonelaolcaa
open Go Go.HW Go.RowKit

/-- Are the bits of 'a' among those of 'b'? (Numbers of six bits.) -/
def sub6 (a b : Int) : Bool := decide (0 ≤ a) && decide (a ≤ 63) && Nat.beq (Nat.land a.toNat (63 - b.toNat)) 0

def allNat (n : Nat) (p : Nat → Bool) : Bool := (List.range n).all p
theorem allNat_of {n : Nat} {p : Nat → Bool} (h : allNat n p = true) {i : Nat} (hi : i < n) : p i = true := List.all_eq_true.1 h i (by simpa using hi)
theorem all64 {p : Int → Bool} (h : allNat 64 (fun n => p n) = true) {a : Int} (h0 : 0 ≤ a) (h1 : a ≤ 63) : p a = true := by
  have := allNat_of h (i := a.toNat) (by omega)
  simpa [Int.toNat_of_nonneg h0] using this
theorem all64x {p : Int → Int → Bool} (h : allNat 64 (fun n => allNat 64 fun m => p n m) = true) {a b : Int} (h0 : 0 ≤ a) (h1 : a ≤ 63) (k0 : 0 ≤ b) (k1 : b ≤ 63) : p a b = true := by
  have h2 := allNat_of h (i := a.toNat) (by omega)
  have := allNat_of h2 (i := b.toNat) (by omega)
  simpa [Int.toNat_of_nonneg h0, Int.toNat_of_nonneg k0] using this

theorem in_small : allNat 64 (fun n => allNat 64 fun m => policy_in.f n m == some (sub6 n m)) = true := by kernel_rfl
theorem In_small : allNat 64 (fun n => allNat 64 fun m => ref21_In.f n m == some (sub6 n m)) = true := by kernel_rfl

def I64 (a : Int) : Prop := IntKind.i64.min ≤ a ∧ a ≤ IntKind.i64.max
theorem i64_lo {a : Int} (h : I64 a) : -9223372036854775808 ≤ a := h.1
theorem i64_hi {a : Int} (h : I64 a) : a ≤ 9223372036854775807 := h.2
theorem sub6_neg {a b : Int} (h : a < 0) : sub6 a b = false := by simp [sub6]; omega
theorem sub6_big {a b : Int} (h : 63 < a) : sub6 a b = false := by simp [sub6]; omega
theorem sub6_range {a b : Int} (h : sub6 a b = true) : 0 ≤ a ∧ a ≤ 63 := by simp [sub6] at h; exact ⟨h.1.1, h.1.2⟩

theorem andn_big {a b : Int} (h : 63 < a) (ha : I64 a) (k0 : 0 ≤ b) (k1 : b ≤ 63) : (iandn .i64 a b == 0) = false := by
  obtain ⟨n, rfl⟩ := Int.eq_ofNat_of_zero_le (show 0 ≤ a by omega)
  obtain ⟨m, rfl⟩ := Int.eq_ofNat_of_zero_le k0
  have hn : n < 2 ^ 63 := by have := i64_hi ha; omega
  have hm : m < 2 ^ 6 := by omega
  obtain ⟨i, hi, hb⟩ := Nat.exists_ge_and_testBit_of_ge_two_pow (n := 6) (x := n) (by omega)
  have hi63 : i < 63 := by
    rcases Nat.lt_or_ge i 63 with h | h
    · exact h
    · rw [Nat.testBit_lt_two_pow (Nat.lt_of_lt_of_le hn (Nat.pow_le_pow_right (by omega) h))] at hb; cases hb
  have hmb : m.testBit i = false := Nat.testBit_lt_two_pow (Nat.lt_of_lt_of_le hm (Nat.pow_le_pow_right (by omega) hi))
  let z : BitVec 64 := BitVec.ofInt 64 n &&& ~~~ BitVec.ofInt 64 m
  have hz : z.getLsbD i = true := by
    simp [z, BitVec.getLsbD_ofNat, hb, hmb]
    omega
  have hz63 : z.getLsbD 63 = false := by
    simp only [z, BitVec.getLsbD_and, BitVec.ofInt_natCast, BitVec.getLsbD_ofNat]
    rw [Nat.testBit_lt_two_pow hn]; simp
  have hzn : z.toNat < 2 ^ 63 := by
    have := z.isLt
    refine Nat.lt_pow_two_of_testBit _ fun j hj => ?_
    rcases Nat.eq_or_lt_of_le hj with rfl | hj
    · exact hz63
    · exact Nat.testBit_lt_two_pow (Nat.lt_of_lt_of_le this (Nat.pow_le_pow_right (by omega) hj))
  have hz0 : z.toNat ≠ 0 := fun e => by
    have : z.getLsbD i = z.toNat.testBit i := rfl
    rw [e, hz] at this
    simp at this
  show (IntKind.wrap .i64 ((z.toNat : Nat) : Int) == 0) = false
  have : IntKind.wrap .i64 ((z.toNat : Nat) : Int) = z.toNat := by
    rw [IntKind.wrap_i64]; omega
  rw [this]
  simp
  omega

theorem pin {a b : Int} (ha : I64 a) (k0 : 0 ≤ b) (k1 : b ≤ 63) : policy_in.f a b = some (sub6 a b) := by
  rcases Int.lt_or_le a 0 with h | h
  · rw [sub6_neg h]; unfold policy_in.f; simp [show ¬ (0 ≤ a) by omega]
  · rcases Int.lt_or_le 63 a with h2 | h2
    · rw [sub6_big h2]; unfold policy_in.f; simp [h]; simpa using andn_big h2 ha k0 k1
    · simpa using all64x (p := fun n m => policy_in.f n m == some (sub6 n m)) in_small h h2 k0 k1
theorem rin {a b : Int} (k0 : 0 ≤ b) (k1 : b ≤ 63) : ref21_In.f a b = some (sub6 a b) := by
  rcases Int.lt_or_le a 0 with h | h
  · rw [sub6_neg h]; unfold ref21_In.f; simp [h]
  · rcases Int.lt_or_le 63 a with h2 | h2
    · rw [sub6_big h2]; unfold ref21_In.f; simp [h2, show ¬ a < 0 by omega]
    · simpa using all64x (p := fun n m => ref21_In.f n m == some (sub6 n m)) In_small h h2 k0 k1

/-! ### one law for each function -/
/-- The bit 2^k of a number of six bits. -/
def bt (a : Int) (k : Nat) : Bool := Nat.beq (Nat.land (Nat.shiftRight a.toNat k) 1) 1
theorem has_small : (List.range 6).all (fun k => allNat 64 fun n => ref21_Has.f n (2 ^ k : Nat) == some (bt n k)) = true := by kernel_rfl
theorem has {a : Int} (h0 : 0 ≤ a) (h1 : a ≤ 63) (k : Nat) (hk : k < 6) : ref21_Has.f a ((2 ^ k : Nat) : Int) = some (bt a k) := by
  have := List.all_eq_true.1 has_small k (by simpa using hk)
  simpa using all64 (p := fun n => ref21_Has.f n (2 ^ k : Nat) == some (bt n k)) this h0 h1
theorem has1 {a : Int} (h0 : 0 ≤ a) (h1 : a ≤ 63) : ref21_Has.f a 1 = some (bt a 0) := has h0 h1 0 (by omega)
theorem has2 {a : Int} (h0 : 0 ≤ a) (h1 : a ≤ 63) : ref21_Has.f a 2 = some (bt a 1) := has h0 h1 1 (by omega)
theorem has4 {a : Int} (h0 : 0 ≤ a) (h1 : a ≤ 63) : ref21_Has.f a 4 = some (bt a 2) := has h0 h1 2 (by omega)
theorem has8 {a : Int} (h0 : 0 ≤ a) (h1 : a ≤ 63) : ref21_Has.f a 8 = some (bt a 3) := has h0 h1 3 (by omega)
theorem has16 {a : Int} (h0 : 0 ≤ a) (h1 : a ≤ 63) : ref21_Has.f a 16 = some (bt a 4) := has h0 h1 4 (by omega)
theorem has32 {a : Int} (h0 : 0 ≤ a) (h1 : a ≤ 63) : ref21_Has.f a 32 = some (bt a 5) := has h0 h1 5 (by omega)
theorem and_small : (List.range 6).all (fun k => allNat 64 fun n => (iand .i64 n (2 ^ k : Nat) == 0) == !(bt n k)) = true := by kernel_rfl
theorem and_bit {a : Int} (h0 : 0 ≤ a) (h1 : a ≤ 63) (k : Nat) (hk : k < 6) : (iand .i64 a ((2 ^ k : Nat) : Int) == 0) = !(bt a k) := by
  have := List.all_eq_true.1 and_small k (by simpa using hk)
  simpa using all64 (p := fun n => (iand .i64 n (2 ^ k : Nat) == 0) == !(bt n k)) this h0 h1
theorem and_bit' {a : Int} (h0 : 0 ≤ a) (h1 : a ≤ 63) (k : Nat) (hk : k < 6) : (iand .i64 a ((2 ^ k : Nat) : Int) != 0) = bt a k := by
  rw [bne, and_bit h0 h1 k hk]; simp

theorem oftype (t : Int) : policy_OfType.f t = ref21_OfType.f t := rfl
def ot (t : Int) : Int := if t == 1 then 39 else if t == 2 then 43 else if t == 3 then 51 else 0
theorem oftype_eq (t : Int) : policy_OfType.f t = some (ot t) := by
  unfold policy_OfType.f ot; repeat' split
  all_goals rfl
theorem oftype_eq' (t : Int) : ref21_OfType.f t = some (ot t) := oftype_eq t
theorem ot_range (t : Int) : 0 ≤ ot t ∧ ot t ≤ 63 := by
  unfold ot; repeat' split
  all_goals omega
theorem ot_zero (t : Int) : (ot t == 0) = !(decide (1 ≤ t) && decide (t ≤ 3)) := by
  unfold ot
  by_cases h1 : t = 1
  · subst h1; rfl
  by_cases h2 : t = 2
  · subst h2; rfl
  by_cases h3 : t = 3
  · subst h3; rfl
  simp [h1, h2, h3]; omega

/-- May a card be? -/
def mc (c0 c1 c2 c3 : Int) : Bool := (ot c0 != 0) && decide (1 ≤ c1) && decide (c1 ≤ 4) && sub6 c3 (ot c0) && sub6 c2 c3 && (c1 != 2 || bt c3 0)
theorem mc_range {c0 c1 c2 c3 : Int} (h : mc c0 c1 c2 c3 = true) : (0 ≤ c2 ∧ c2 ≤ 63) ∧ 0 ≤ c3 ∧ c3 ≤ 63 := by
  simp only [mc, Bool.and_eq_true] at h
  exact ⟨sub6_range h.1.2, sub6_range h.1.1.2⟩
theorem may_eq {c0 c1 c2 c3 : Int} (h2 : I64 c2) (h3 : I64 c3) : policy_MayCard.f c0 c1 c2 c3 = some (mc c0 c1 c2 c3) := by
  unfold policy_MayCard.f
  simp only [oftype_eq, Option.bind_some, pin h3 (ot_range c0).1 (ot_range c0).2]
  unfold mc
  cases ot c0 != 0 <;> simp
  by_cases k1 : 1 ≤ c1 <;> simp [k1]
  by_cases k2 : c1 ≤ 4 <;> simp [k2]
  cases hs : sub6 c3 (ot c0) <;> simp
  obtain ⟨r0, r1⟩ := sub6_range hs
  rw [pin h2 r0 r1]
  cases hs2 : sub6 c2 c3 <;> simp
  have := and_bit' r0 r1 0 (by omega)
  simp at this
  rw [this]
  by_cases h : c1 = 2 <;> simp [h]
theorem may_eq' {c0 c1 c2 c3 : Int} : ref21_MayCard.f c0 c1 c2 c3 = some (mc c0 c1 c2 c3) := by
  unfold ref21_MayCard.f
  simp only [oftype_eq', Option.bind_some, rin (a := c3) (ot_range c0).1 (ot_range c0).2]
  unfold mc
  have hz : (ot c0 != 0) = (decide (1 ≤ c0) && decide (c0 ≤ 3)) := by rw [bne, ot_zero, Bool.not_not]
  rw [hz]
  by_cases k1 : 1 ≤ c0 <;> simp [k1]
  by_cases k2 : c0 ≤ 3 <;> simp [k2]
  by_cases k1 : 1 ≤ c1 <;> simp [k1]
  by_cases k2 : c1 ≤ 4 <;> simp [k2]
  cases hs : sub6 c3 (ot c0) <;> simp
  obtain ⟨r0, r1⟩ := sub6_range hs
  rw [rin r0 r1]
  cases hs2 : sub6 c2 c3 <;> simp
  rw [has1 r0 r1]
  by_cases h : c1 = 2 <;> simp [h]
/-- Is a key kept? -/
def kep (c0 c1 c2 c3 : Int) : Bool := mc c0 c1 c2 c3 && !(bt c3 0)
theorem kept_eq {c0 c1 c2 c3 : Int} (h2 : I64 c2) (h3 : I64 c3) : policy_Kept.f c0 c1 c2 c3 = some (kep c0 c1 c2 c3) := by
  unfold policy_Kept.f kep
  rw [may_eq h2 h3]
  cases h : mc c0 c1 c2 c3 <;> simp
  have := and_bit (mc_range h).2.1 (mc_range h).2.2 0 (by omega)
  simpa using this
theorem kept_eq' {c0 c1 c2 c3 : Int} : ref21_Kept.f c0 c1 c2 c3 = some (kep c0 c1 c2 c3) := by
  unfold ref21_Kept.f kep
  rw [may_eq']
  cases h : mc c0 c1 c2 c3 <;> simp
  rw [has1 (mc_range h).2.1 (mc_range h).2.2]; rfl

theorem known_eq : law21_known.f = some true := by kernel_rfl
theorem text_small : allNat 64 (fun n => (policy_Text.f n).isSome && policy_Text.f n == ref21_Text.f n) = true := by kernel_rfl
theorem text_eq (a : Int) : ∃ s, policy_Text.f a = some s ∧ ref21_Text.f a = some s := by
  rcases Int.lt_or_le a 0 with h | h
  · refine ⟨[45], ?_, ?_⟩
    · unfold policy_Text.f; simp [show a ≤ 0 by omega]
    · unfold ref21_Text.f; simp [h]
  · rcases Int.lt_or_le 63 a with h2 | h2
    · refine ⟨[45], ?_, ?_⟩
      · unfold policy_Text.f; simp [show ¬ a ≤ 0 by omega, h2]
      · unfold ref21_Text.f; simp [show ¬ a < 0 by omega, h2]
    · have := all64 (p := fun n => (policy_Text.f n).isSome && policy_Text.f n == ref21_Text.f n) text_small h h2
      rw [Bool.and_eq_true, beq_iff_eq] at this
      obtain ⟨h3, h4⟩ := this
      obtain ⟨s, hs⟩ := Option.isSome_iff_exists.1 h3
      exact ⟨s, hs, by rw [← h4, hs]⟩
theorem PolicyLooks_law {c0 c1 c2 c3 t a : Int} (h2 : I64 c2) (h3 : I64 c3) : law21_PolicyLooks.f c0 c1 c2 c3 t a = some true := by
  unfold law21_PolicyLooks.f
  obtain ⟨s, e1, e2⟩ := text_eq a
  rw [may_eq h2 h3, may_eq', kept_eq h2 h3, kept_eq', oftype_eq, oftype_eq', e1, e2, known_eq]
  simp
end Go.Proofs.Ytbnmoonelaolcaa
