import Derived.Test.YtbnmoonelaolcaaPo2
namespace Go.Proofs.Ytbnmoonelaolcaa
open Go Go.HW Go.RowKit

/-- Are the bits of 'a' among those of 'b'? (Numbers of six bits.) -/
def sub6 (a b : Int) : Bool := decide (0 ≤ a) && decide (a ≤ 63) && Nat.beq (Nat.land a.toNat (63 - b.toNat)) 0

def allNat (n : Nat) (p : Nat → Bool) : Bool := (List.range n).all p
theorem allNat_of {n : Nat} {p : Nat → Bool} (h : allNat n p = true) {i : Nat} (hi : i < n) : p i = true := List.all_eq_true.1 h i (by simpa using hi)
theorem all64 {p : Int → Bool} (h : allNat 64 (fun n => p n) = true) {a : Int} (h0 : 0 ≤ a) (h1 : a ≤ 63) : p a = true := by
  have := allNat_of h (i := a.toNat) (by omega)
  simpa [Int.toNat_of_nonneg h0] using this
theorem all64x {p : Int → Int → Bool} (h : allNat 64 (fun n => allNat 64 fun m => p n m) = true) {a b : Int} (h0 : 0 ≤ a) (h1 : a ≤ 63) (k0 : 0 ≤ b) (k1 : b ≤ 63) : p a b = true := by
  have h2 := allNat_of h (i := a.toNat) (by omega)
  have := allNat_of h2 (i := b.toNat) (by omega)
  simpa [Int.toNat_of_nonneg h0, Int.toNat_of_nonneg k0] using this

theorem in_small : allNat 64 (fun n => allNat 64 fun m => policy_in.f n m == some (sub6 n m)) = true := by kernel_rfl
theorem In_small : allNat 64 (fun n => allNat 64 fun m => ref21_In.f n m == some (sub6 n m)) = true := by kernel_rfl

def I64 (a : Int) : Prop := IntKind.i64.min ≤ a ∧ a ≤ IntKind.i64.max
theorem i64_lo {a : Int} (h : I64 a) : -9223372036854775808 ≤ a := h.1
theorem i64_hi {a : Int} (h : I64 a) : a ≤ 9223372036854775807 := h.2
theorem sub6_neg {a b : Int} (h : a < 0) : sub6 a b = false := by simp [sub6]; omega
theorem sub6_big {a b : Int} (h : 63 < a) : sub6 a b = false := by simp [sub6]; omega
theorem sub6_range {a b : Int} (h : sub6 a b = true) : 0 ≤ a ∧ a ≤ 63 := by simp [sub6] at h; exact ⟨h.1.1, h.1.2⟩

theorem andn_big {a b : Int} (h : 63 < a) (ha : I64 a) (k0 : 0 ≤ b) (k1 : b ≤ 63) : (iandn .i64 a b == 0) = false := by
  obtain ⟨n, rfl⟩ := Int.eq_ofNat_of_zero_le (show 0 ≤ a by omega)
  obtain ⟨m, rfl⟩ := Int.eq_ofNat_of_zero_le k0
  have hn : n < 2 ^ 63 := by have := i64_hi ha; omega
  have hm : m < 2 ^ 6 := by omega
  obtain ⟨i, hi, hb⟩ := Nat.exists_ge_and_testBit_of_ge_two_pow (n := 6) (x := n) (by omega)
  have hi63 : i < 63 := by
    rcases Nat.lt_or_ge i 63 with h | h
    · exact h
    · rw [Nat.testBit_lt_two_pow (Nat.lt_of_lt_of_le hn (Nat.pow_le_pow_right (by omega) h))] at hb; cases hb
  have hmb : m.testBit i = false := Nat.testBit_lt_two_pow (Nat.lt_of_lt_of_le hm (Nat.pow_le_pow_right (by omega) hi))
  let z : BitVec 64 := BitVec.ofInt 64 n &&& ~~~ BitVec.ofInt 64 m
  have hz : z.getLsbD i = true := by
    simp [z, BitVec.getLsbD_ofNat, hb, hmb]
    omega
  have hz63 : z.getLsbD 63 = false := by
    simp only [z, BitVec.getLsbD_and, BitVec.ofInt_natCast, BitVec.getLsbD_ofNat]
    rw [Nat.testBit_lt_two_pow hn]; simp
  have hzn : z.toNat < 2 ^ 63 := by
    have := z.isLt
    refine Nat.lt_pow_two_of_testBit _ fun j hj => ?_
    rcases Nat.eq_or_lt_of_le hj with rfl | hj
    · exact hz63
    · exact Nat.testBit_lt_two_pow (Nat.lt_of_lt_of_le this (Nat.pow_le_pow_right (by omega) hj))
  have hz0 : z.toNat ≠ 0 := fun e => by
    have : z.getLsbD i = z.toNat.testBit i := rfl
    rw [e, hz] at this
    simp at this
  show (IntKind.wrap .i64 ((z.toNat : Nat) : Int) == 0) = false
  have : IntKind.wrap .i64 ((z.toNat : Nat) : Int) = z.toNat := by
    rw [IntKind.wrap_i64]; omega
  rw [this]
  simp
  omega

theorem pin {a b : Int} (ha : I64 a) (k0 : 0 ≤ b) (k1 : b ≤ 63) : policy_in.f a b = some (sub6 a b) := by
  rcases Int.lt_or_le a 0 with h | h
  · rw [sub6_neg h]; unfold policy_in.f; simp [show ¬ (0 ≤ a) by omega]
  · rcases Int.lt_or_le 63 a with h2 | h2
    · rw [sub6_big h2]; unfold policy_in.f; simp [h]; simpa using andn_big h2 ha k0 k1
    · simpa using all64x (p := fun n m => policy_in.f n m == some (sub6 n m)) in_small h h2 k0 k1
theorem rin {a b : Int} (k0 : 0 ≤ b) (k1 : b ≤ 63) : ref21_In.f a b = some (sub6 a b) := by
  rcases Int.lt_or_le a 0 with h | h
  · rw [sub6_neg h]; unfold ref21_In.f; simp [h]
  · rcases Int.lt_or_le 63 a with h2 | h2
    · rw [sub6_big h2]; unfold ref21_In.f; simp [h2, show ¬ a < 0 by omega]
    · simpa using all64x (p := fun n m => ref21_In.f n m == some (sub6 n m)) In_small h h2 k0 k1

/-! ### one law for each function -/
/-- The bit 2^k of a number of six bits. -/
def bt (a : Int) (k : Nat) : Bool := Nat.beq (Nat.land (Nat.shiftRight a.toNat k) 1) 1
theorem has_small : (List.range 6).all (fun k => allNat 64 fun n => ref21_Has.f n (2 ^ k : Nat) == some (bt n k)) = true := by kernel_rfl
theorem has {a : Int} (h0 : 0 ≤ a) (h1 : a ≤ 63) (k : Nat) (hk : k < 6) : ref21_Has.f a ((2 ^ k : Nat) : Int) = some (bt a k) := by
  have := List.all_eq_true.1 has_small k (by simpa using hk)
  simpa using all64 (p := fun n => ref21_Has.f n (2 ^ k : Nat) == some (bt n k)) this h0 h1
theorem has1 {a : Int} (h0 : 0 ≤ a) (h1 : a ≤ 63) : ref21_Has.f a 1 = some (bt a 0) := has h0 h1 0 (by omega)
theorem has2 {a : Int} (h0 : 0 ≤ a) (h1 : a ≤ 63) : ref21_Has.f a 2 = some (bt a 1) := has h0 h1 1 (by omega)
theorem has4 {a : Int} (h0 : 0 ≤ a) (h1 : a ≤ 63) : ref21_Has.f a 4 = some (bt a 2) := has h0 h1 2 (by omega)
theorem has8 {a : Int} (h0 : 0 ≤ a) (h1 : a ≤ 63) : ref21_Has.f a 8 = some (bt a 3) := has h0 h1 3 (by omega)
theorem has16 {a : Int} (h0 : 0 ≤ a) (h1 : a ≤ 63) : ref21_Has.f a 16 = some (bt a 4) := has h0 h1 4 (by omega)
theorem has32 {a : Int} (h0 : 0 ≤ a) (h1 : a ≤ 63) : ref21_Has.f a 32 = some (bt a 5) := has h0 h1 5 (by omega)
theorem and_small : (List.range 6).all (fun k => allNat 64 fun n => (iand .i64 n (2 ^ k : Nat) == 0) == !(bt n k)) = true := by kernel_rfl
theorem and_bit {a : Int} (h0 : 0 ≤ a) (h1 : a ≤ 63) (k : Nat) (hk : k < 6) : (iand .i64 a ((2 ^ k : Nat) : Int) == 0) = !(bt a k) := by
  have := List.all_eq_true.1 and_small k (by simpa using hk)
  simpa using all64 (p := fun n => (iand .i64 n (2 ^ k : Nat) == 0) == !(bt n k)) this h0 h1
theorem and_bit' {a : Int} (h0 : 0 ≤ a) (h1 : a ≤ 63) (k : Nat) (hk : k < 6) : (iand .i64 a ((2 ^ k : Nat) : Int) != 0) = bt a k := by
  rw [bne, and_bit h0 h1 k hk]; simp

theorem more_small : allNat 64 (fun n => ref21_more.f n == some (ior .i64 n 1)) = true := by kernel_rfl
theorem more_eq {a : Int} (h0 : 0 ≤ a) (h1 : a ≤ 63) : ref21_more.f a = some (ior .i64 a 1) := by
  simpa using all64 (p := fun n => ref21_more.f n == some (ior .i64 n 1)) more_small h0 h1
theorem oftype (t : Int) : policy_OfType.f t = ref21_OfType.f t := rfl
def ot (t : Int) : Int := if t == 1 then 39 else if t == 2 then 43 else if t == 3 then 51 else 0
theorem oftype_eq (t : Int) : policy_OfType.f t = some (ot t) := by
  unfold policy_OfType.f ot; repeat' split
  all_goals rfl
theorem oftype_eq' (t : Int) : ref21_OfType.f t = some (ot t) := oftype_eq t
theorem ot_range (t : Int) : 0 ≤ ot t ∧ ot t ≤ 63 := by
  unfold ot; repeat' split
  all_goals omega
theorem ot_zero (t : Int) : (ot t == 0) = !(decide (1 ≤ t) && decide (t ≤ 3)) := by
  unfold ot
  by_cases h1 : t = 1
  · subst h1; rfl
  by_cases h2 : t = 2
  · subst h2; rfl
  by_cases h3 : t = 3
  · subst h3; rfl
  simp [h1, h2, h3]; omega

/-- May a card be? -/
def mc (c0 c1 c2 c3 : Int) : Bool := (ot c0 != 0) && decide (1 ≤ c1) && decide (c1 ≤ 4) && sub6 c3 (ot c0) && sub6 c2 c3 && (c1 != 2 || bt c3 0)
theorem mc_range {c0 c1 c2 c3 : Int} (h : mc c0 c1 c2 c3 = true) : (0 ≤ c2 ∧ c2 ≤ 63) ∧ 0 ≤ c3 ∧ c3 ≤ 63 := by
  simp only [mc, Bool.and_eq_true] at h
  exact ⟨sub6_range h.1.2, sub6_range h.1.1.2⟩
theorem may_eq {c0 c1 c2 c3 : Int} (h2 : I64 c2) (h3 : I64 c3) : policy_MayCard.f c0 c1 c2 c3 = some (mc c0 c1 c2 c3) := by
  unfold policy_MayCard.f
  simp only [oftype_eq, Option.bind_some, pin h3 (ot_range c0).1 (ot_range c0).2]
  unfold mc
  cases ot c0 != 0 <;> simp
  by_cases k1 : 1 ≤ c1 <;> simp [k1]
  by_cases k2 : c1 ≤ 4 <;> simp [k2]
  cases hs : sub6 c3 (ot c0) <;> simp
  obtain ⟨r0, r1⟩ := sub6_range hs
  rw [pin h2 r0 r1]
  cases hs2 : sub6 c2 c3 <;> simp
  have := and_bit' r0 r1 0 (by omega)
  simp at this
  rw [this]
  by_cases h : c1 = 2 <;> simp [h]
theorem may_eq' {c0 c1 c2 c3 : Int} : ref21_MayCard.f c0 c1 c2 c3 = some (mc c0 c1 c2 c3) := by
  unfold ref21_MayCard.f
  simp only [oftype_eq', Option.bind_some, rin (a := c3) (ot_range c0).1 (ot_range c0).2]
  unfold mc
  have hz : (ot c0 != 0) = (decide (1 ≤ c0) && decide (c0 ≤ 3)) := by rw [bne, ot_zero, Bool.not_not]
  rw [hz]
  by_cases k1 : 1 ≤ c0 <;> simp [k1]
  by_cases k2 : c0 ≤ 3 <;> simp [k2]
  by_cases k1 : 1 ≤ c1 <;> simp [k1]
  by_cases k2 : c1 ≤ 4 <;> simp [k2]
  cases hs : sub6 c3 (ot c0) <;> simp
  obtain ⟨r0, r1⟩ := sub6_range hs
  rw [rin r0 r1]
  cases hs2 : sub6 c2 c3 <;> simp
  rw [has1 r0 r1]
  by_cases h : c1 = 2 <;> simp [h]
/-- Is a key kept? -/
def kp (c0 c1 c2 c3 : Int) : Bool := mc c0 c1 c2 c3 && !(bt c3 0)
theorem kept_eq {c0 c1 c2 c3 : Int} (h2 : I64 c2) (h3 : I64 c3) : policy_Kept.f c0 c1 c2 c3 = some (kp c0 c1 c2 c3) := by
  unfold policy_Kept.f kp
  rw [may_eq h2 h3]
  cases h : mc c0 c1 c2 c3 <;> simp
  have := and_bit (mc_range h).2.1 (mc_range h).2.2 0 (by omega)
  simpa using this
theorem kept_eq' {c0 c1 c2 c3 : Int} : ref21_Kept.f c0 c1 c2 c3 = some (kp c0 c1 c2 c3) := by
  unfold ref21_Kept.f kp
  rw [may_eq']
  cases h : mc c0 c1 c2 c3 <;> simp
  rw [has1 (mc_range h).2.1 (mc_range h).2.2]; rfl

/-- A child's card. -/
def ch (o t a : Int) (opn : Bool) : Int × Int × Int × Int × Int := if sub6 a (ot t) then (t, o, a, if opn then ior .i64 a 1 else a, 0) else (0, 0, 0, 0, 12)
theorem child_eq {o t a : Int} {opn : Bool} (ha : I64 a) : policy_child.f o t a opn = some (ch o t a opn) := by
  unfold policy_child.f ch
  cases opn <;> simp [oftype_eq, pin ha (ot_range t).1 (ot_range t).2] <;> cases sub6 a (ot t) <;> simp
def mk (t a : Int) : Bool := (ot t != 0) && decide (0 ≤ a) && decide (a ≤ 63)
theorem sub63 {a : Int} : sub6 a 63 = (decide (0 ≤ a) && decide (a ≤ 63)) := by
  have h : Nat.beq (Nat.land a.toNat (63 - (63 : Int).toNat)) 0 = true := by
    show Nat.beq (Nat.land a.toNat 0) 0 = true
    rw [show Nat.land a.toNat 0 = 0 from Nat.and_zero _]; rfl
  unfold sub6
  rw [h, Bool.and_true]
theorem mayAsk_eq {t a : Int} (ha : I64 a) : policy_mayAsk.f t a = some (mk t a) := by
  unfold policy_mayAsk.f mk
  rw [oftype_eq, pin ha (by omega) (by omega)]
  rw [sub63, Option.bind_some]
  cases ot t != 0 <;> simp

def nw (o t a : Int) : Int × Int × Int × Int × Int := if (o != 1 && o != 2) || !(mk t a) then (0, 0, 0, 0, 2) else ch o t a (o == 2)
theorem New_eq {o t a : Int} (ha : I64 a) : policy_New.f o t a = some (nw o t a) := by
  unfold policy_New.f nw
  rw [mayAsk_eq ha, child_eq ha]
  by_cases h1 : o = 1
  · subst h1; cases mk t a <;> simp
  · by_cases h2 : o = 2
    · subst h2; cases mk t a <;> simp
    · simp [h1, h2]
theorem New_eq' {o t a : Int} : ref21_New.f o t a = some (nw o t a) := by
  unfold ref21_New.f nw
  simp only [oftype_eq', Option.bind_some, rin (a := a) (ot_range t).1 (ot_range t).2]
  unfold mk ch
  by_cases h : 0 ≤ a ∧ a ≤ 63
  · obtain ⟨r0, r1⟩ := h
    rw [more_eq r0 r1]
    have e0 : decide (a < 0) = false := by simp; omega
    have e1 : decide (63 < a) = false := by simp; omega
    simp only [e0, e1, r0, r1]
    by_cases h1 : o = 1
    · subst h1
      by_cases hz : ot t = 0 <;> simp [hz]
      cases sub6 a (ot t) <;> simp
    · by_cases h2 : o = 2
      · subst h2
        by_cases hz : ot t = 0 <;> simp [hz]
        cases sub6 a (ot t) <;> simp
      · simp [h1, h2]
  · have e : (decide (0 ≤ a) && decide (a ≤ 63)) = false := by simp; omega
    rw [Bool.and_assoc, e]
    rcases Int.lt_or_le a 0 with h0 | h0
    · simp [h0]
      by_cases h1 : o = 1 <;> by_cases h2 : o = 2 <;> by_cases hz : ot t = 0 <;> simp [h1, h2, hz]
    · have h1 : 63 < a := by omega
      have h0' : ¬ a < 0 := by omega
      simp [h1, h0']
      by_cases h1 : o = 1 <;> by_cases h2 : o = 2 <;> by_cases hz : ot t = 0 <;> simp [h1, h2, hz]

theorem der_small : allNat 64 (fun n => allNat 64 fun m => (iandn .i64 (iand .i64 n 3) m != 0) == (bt n 0 && !(bt m 0) || bt n 1 && !(bt m 1))) = true := by kernel_rfl
theorem der_bits {a b : Int} (h0 : 0 ≤ a) (h1 : a ≤ 63) (k0 : 0 ≤ b) (k1 : b ≤ 63) : (iandn .i64 (iand .i64 a 3) b != 0) = (bt a 0 && !(bt b 0) || bt a 1 && !(bt b 1)) := by
  simpa using all64x (p := fun n m => (iandn .i64 (iand .i64 n 3) m != 0) == (bt n 0 && !(bt m 0) || bt n 1 && !(bt m 1))) der_small h0 h1 k0 k1
def dv (c0 c1 c2 c3 t a : Int) : Int × Int × Int × Int × Int := if !(mc c0 c1 c2 c3) || !(mk t a) then (0, 0, 0, 0, 2) else if bt a 0 && !(bt c2 0) || bt a 1 && !(bt c2 1) then (0, 0, 0, 0, 12) else ch 3 t a (!(kp c0 c1 c2 c3))
theorem mk_range {t a : Int} (h : mk t a = true) : 0 ≤ a ∧ a ≤ 63 := by simp [mk] at h; omega
theorem Derived_eq {c0 c1 c2 c3 t a : Int} (h2 : I64 c2) (h3 : I64 c3) (ha : I64 a) : policy_Derived.f c0 c1 c2 c3 t a = some (dv c0 c1 c2 c3 t a) := by
  unfold policy_Derived.f dv
  rw [may_eq h2 h3, mayAsk_eq ha, kept_eq h2 h3, Option.bind_some]
  cases hm : mc c0 c1 c2 c3
  · simp
  · cases hk : mk t a
    · simp
    · simp only [der_bits (mk_range hk).1 (mk_range hk).2 (mc_range hm).1.1 (mc_range hm).1.2]
      cases hb : (bt a 0 && !(bt c2 0) || bt a 1 && !(bt c2 1)) <;> simp [child_eq ha]
theorem Derived_eq' {c0 c1 c2 c3 t a : Int} : ref21_Derived.f c0 c1 c2 c3 t a = some (dv c0 c1 c2 c3 t a) := by
  unfold ref21_Derived.f dv
  rw [may_eq', kept_eq', oftype_eq']
  cases hm : mc c0 c1 c2 c3
  · simp
  · cases hk : mk t a
    · unfold mk at hk
      by_cases hz : ot t = 0
      · simp [hz]
      · simp [hz] at hk ⊢
        rcases Int.lt_or_le a 0 with h0 | h0
        · simp [h0]
        · have h1 : 63 < a := hk h0
          simp [h1, show ¬ a < 0 by omega]
    · obtain ⟨r0, r1⟩ := mk_range hk
      obtain ⟨s0, s1⟩ := (mc_range hm).1
      have hz : ot t ≠ 0 := by simp [mk] at hk; exact hk.1.1
      have e0 : ¬ a < 0 := by omega
      have e1 : ¬ 63 < a := by omega
      simp [hz, e0, e1, has1 r0 r1, has2 r0 r1, has1 s0 s1, has2 s0 s1, rin (a := a) (ot_range t).1 (ot_range t).2, more_eq r0 r1]
      cases bt a 0 <;> cases bt a 1 <;> cases bt c2 0 <;> cases bt c2 1 <;> simp [ch] <;> cases sub6 a (ot t) <;> simp <;> cases kp c0 c1 c2 c3 <;> simp

def uw (b0 b1 b2 b3 c0 c1 c2 c3 a : Int) : Int × Int × Int × Int × Int := if !(mc b0 b1 b2 b3) || !(mc c0 c1 c2 c3) || !(decide (0 ≤ a) && decide (a ≤ 63)) then (0, 0, 0, 0, 2) else if !(sub6 a c2) then (0, 0, 0, 0, 12) else ch 4 c0 a (!(kp b0 b1 b2 b3) || !(kp c0 c1 c2 c3))
/-- What is among the attributes of a card that may be is among its type's. -/
theorem sub_trans_small : allNat 64 (fun n => allNat 64 fun m => [39, 43, 51, 0].all fun t => !(sub6 n m) || !(sub6 m t) || sub6 n t) = true := by kernel_rfl
theorem Unwrapped_eq {b0 b1 b2 b3 c0 c1 c2 c3 a : Int} (h2 : I64 b2) (h3 : I64 b3) (k2 : I64 c2) (k3 : I64 c3) (ha : I64 a) : policy_Unwrapped.f b0 b1 b2 b3 c0 c1 c2 c3 a = some (uw b0 b1 b2 b3 c0 c1 c2 c3 a) := by
  unfold policy_Unwrapped.f uw
  rw [may_eq h2 h3, may_eq k2 k3, kept_eq h2 h3, kept_eq k2 k3, pin ha (by omega) (by omega), sub63]
  cases hm : mc b0 b1 b2 b3
  · simp
  · cases hn : mc c0 c1 c2 c3
    · simp
    · obtain ⟨s0, s1⟩ := (mc_range hn).1
      rw [pin ha s0 s1]
      cases hr : (decide (0 ≤ a) && decide (a ≤ 63)) <;> simp
      cases sub6 a c2 <;> simp
      cases kp b0 b1 b2 b3 <;> simp [child_eq ha]
theorem Unwrapped_eq' {b0 b1 b2 b3 c0 c1 c2 c3 a : Int} : ref21_Unwrapped.f b0 b1 b2 b3 c0 c1 c2 c3 a = some (uw b0 b1 b2 b3 c0 c1 c2 c3 a) := by
  unfold ref21_Unwrapped.f uw
  rw [may_eq', may_eq', kept_eq', kept_eq']
  cases hm : mc b0 b1 b2 b3
  · simp
  · cases hn : mc c0 c1 c2 c3
    · simp
    · obtain ⟨s0, s1⟩ := (mc_range hn).1
      rw [rin s0 s1]
      by_cases hr : 0 ≤ a ∧ a ≤ 63
      · obtain ⟨r0, r1⟩ := hr
        simp [r0, r1, show ¬ a < 0 by omega, show ¬ 63 < a by omega, more_eq r0 r1]
        cases hs : sub6 a c2 <;> simp
        have ht : sub6 a (ot c0) = true := by
          have h1 := all64x (p := fun n m => [39, 43, 51, 0].all fun t => !(sub6 n m) || !(sub6 m t) || sub6 n t) sub_trans_small r0 r1 s0 s1
          have h3 := all64x (p := fun n m => [39, 43, 51, 0].all fun t => !(sub6 n m) || !(sub6 m t) || sub6 n t) sub_trans_small s0 s1 (mc_range hn).2.1 (mc_range hn).2.2
          simp only [mc, Bool.and_eq_true] at hn
          have hm1 := hn.1.2
          have hm2 := hn.1.1.2
          have hmem : ot c0 ∈ [39, 43, 51, 0] := by unfold ot; repeat' split
                                                    all_goals simp
          have h4 := List.all_eq_true.1 h3 (ot c0) hmem
          have h2 := List.all_eq_true.1 h1 (ot c0) hmem
          rw [hm1, hm2] at h4
          simp at h4
          rw [hs, h4] at h2
          simpa using h2
        simp [ch, ht]
        cases kp b0 b1 b2 b3 <;> cases kp c0 c1 c2 c3 <;> simp
      · have e : (decide (0 ≤ a) && decide (a ≤ 63)) = false := by simp; omega
        rw [e]
        rcases Int.lt_or_le a 0 with h0 | h0
        · simp [h0]
        · simp [show ¬ a < 0 by omega, show 63 < a by omega]

theorem low_small : allNat 64 (fun n => allNat 64 fun m => ref21_Lower.L0 n 8 1 0 0 m 0 == some (0, 0, iandn .i64 m n, 0)) = true := by kernel_rfl
theorem low_carry (a c0 c1 c3 : Int) : ∀ (k : Nat) (b c2 : Int), ref21_Lower.L0 a k b c0 c1 c2 c3 = (ref21_Lower.L0 a k b 0 0 c2 0).map fun r => (c0, c1, r.2.2.1, c3)
  | 0, _, _ => rfl
  | k + 1, b, c2 => by
    unfold ref21_Lower.L0
    by_cases h : decide (b < 64) = true
    · rw [if_pos h, if_pos h]
      cases ref21_Has.f a b with
      | none => rfl
      | some t =>
        simp only [Option.bind_some]
        cases (if t = true then (ref21_Has.f c2 b).bind fun t110 => some t110 else some false) with
        | none => rfl
        | some q =>
          simp only [Option.bind_some]
          cases q <;> simp [low_carry a c0 c1 c3 k]
    · rw [if_neg h, if_neg h]; rfl
def lw (c0 c1 c2 c3 a : Int) : Int × Int × Int × Int × Int := if !(mc c0 c1 c2 c3) || !(decide (0 ≤ a) && decide (a ≤ 63)) then (0, 0, 0, 0, 2) else (c0, c1, iandn .i64 c2 a, c3, 0)
theorem Lower_eq {c0 c1 c2 c3 a : Int} (h2 : I64 c2) (h3 : I64 c3) (ha : I64 a) : policy_Lower.f c0 c1 c2 c3 a = some (lw c0 c1 c2 c3 a) := by
  unfold policy_Lower.f lw
  rw [may_eq h2 h3, pin ha (by omega) (by omega), sub63]
  cases hm : mc c0 c1 c2 c3
  · simp
  · cases hr : (decide (0 ≤ a) && decide (a ≤ 63)) <;> simp
theorem Lower_eq' {c0 c1 c2 c3 a : Int} : ref21_Lower.f c0 c1 c2 c3 a = some (lw c0 c1 c2 c3 a) := by
  unfold ref21_Lower.f lw
  rw [may_eq']
  cases hm : mc c0 c1 c2 c3
  · simp
  · by_cases hr : 0 ≤ a ∧ a ≤ 63
    · obtain ⟨r0, r1⟩ := hr
      obtain ⟨s0, s1⟩ := (mc_range hm).1
      have := all64x (p := fun n m => ref21_Lower.L0 n 8 1 0 0 m 0 == some (0, 0, iandn .i64 m n, 0)) low_small r0 r1 s0 s1
      rw [low_carry]
      simp only [beq_iff_eq] at this
      simp [r0, r1, show ¬ a < 0 by omega, show ¬ 63 < a by omega, this]
    · have e : (decide (0 ≤ a) && decide (a ≤ 63)) = false := by simp; omega
      rw [e]
      rcases Int.lt_or_le a 0 with h0 | h0
      · simp [h0]
      · simp [show ¬ a < 0 by omega, show 63 < a by omega]

theorem known_eq : law21_known.f = some true := by kernel_rfl
theorem num_eq (a : Int) : law21_num.f a = some a := rfl
theorem PolicyChildren_law {c0 c1 c2 c3 d0 d1 d2 d3 o t a : Int} (hc2 : I64 c2) (hc3 : I64 c3) (hd2 : I64 d2) (hd3 : I64 d3) (ha : I64 a) : law21_PolicyChildren.f c0 c1 c2 c3 d0 d1 d2 d3 o t a = some true := by
  unfold law21_PolicyChildren.f
  rw [New_eq ha, New_eq', Derived_eq hc2 hc3 ha, Derived_eq', Unwrapped_eq hc2 hc3 hd2 hd3 ha, Unwrapped_eq', Lower_eq hc2 hc3 ha, Lower_eq', known_eq]
  simp [num_eq, nm]
end Go.Proofs.Ytbnmoonelaolcaa
