import Derived.Test.YtbnmoonelaolcaaPo3
import Derived.Test.YtbnmoonelaolcaaPoLaw
namespace Go.Proofs.Ytbnmoonelaolcaa
open Go Go.HW Go.RowKit
set_option linter.unusedSimpArgs false
set_option linter.unusedVariables false

def td (b : Bool) : Int := if b then 0 else 12
theorem told_eq (b : Bool) : policy_told.f b = some (td b) := by cases b <;> rfl
theorem rules_eq : policy_rules.f = some (32, 1, 16, 8, 4) := rfl
theorem r1_eq {c0 c1 c2 c3 m : Int} : policy_rules_1_1.f c0 c1 c2 c3 m = some (iand .i64 c2 m != 0) := rfl
theorem r2_eq {c0 c1 c2 c3 : Int} : policy_rules_2.f c0 c1 c2 c3 = some true := rfl
theorem r3_eq {c0 c1 c2 c3 : Int} : policy_rules_3.f c0 c1 c2 c3 = some (c0 == 1) := rfl
theorem r4_eq {c0 c1 c2 c3 : Int} : policy_rules_4.f c0 c1 c2 c3 = some ((c0 == 1) && (iand .i64 c2 32 != 0)) := by
  unfold policy_rules_4.f; cases c0 == 1 <;> rfl
/-- What the table says of a kind. -/
def rl (c0 c2 k : Int) : Option Bool :=
  if k == 3 then some true else if k == 11 then some true else if k == 10 then some true else if k == 4 then some (c0 == 1) else if k == 5 then some (bt c2 2) else if k == 7 then some (bt c2 3)
  else if k == 8 then some (bt c2 4) else if k == 9 then some (bt c2 0) else if k == 12 then some (bt c2 5) else if k == 13 then some ((c0 == 1) && bt c2 5) else none
def aq (c0 c1 c2 c3 k : Int) : Int := if !(mc c0 c1 c2 c3) then 2 else match rl c0 c2 k with | none => 2 | some b => td b
theorem b4 {a : Int} (h0 : 0 ≤ a) (h1 : a ≤ 63) : (iand .i64 a 4 != 0) = bt a 2 := and_bit' h0 h1 2 (by omega)
theorem b8 {a : Int} (h0 : 0 ≤ a) (h1 : a ≤ 63) : (iand .i64 a 8 != 0) = bt a 3 := and_bit' h0 h1 3 (by omega)
theorem b16 {a : Int} (h0 : 0 ≤ a) (h1 : a ≤ 63) : (iand .i64 a 16 != 0) = bt a 4 := and_bit' h0 h1 4 (by omega)
theorem b1 {a : Int} (h0 : 0 ≤ a) (h1 : a ≤ 63) : (iand .i64 a 1 != 0) = bt a 0 := and_bit' h0 h1 0 (by omega)
theorem b2 {a : Int} (h0 : 0 ≤ a) (h1 : a ≤ 63) : (iand .i64 a 2 != 0) = bt a 1 := and_bit' h0 h1 1 (by omega)
theorem b32 {a : Int} (h0 : 0 ≤ a) (h1 : a ≤ 63) : (iand .i64 a 32 != 0) = bt a 5 := and_bit' h0 h1 5 (by omega)

theorem Asked_eq {c0 c1 c2 c3 k : Int} (h2 : I64 c2) (h3 : I64 c3) : policy_Asked.f c0 c1 c2 c3 k = some (aq c0 c1 c2 c3 k) := by
  unfold policy_Asked.f aq rl
  rw [rules_eq, may_eq h2 h3]
  simp only [Option.bind_some, r1_eq, r2_eq, r3_eq, r4_eq, told_eq]
  cases hm : mc c0 c1 c2 c3
  · simp
  · obtain ⟨r0, r1⟩ := (mc_range hm).1
    simp only [b4 r0 r1, b8 r0 r1, b16 r0 r1, b1 r0 r1, b32 r0 r1]
    simp only [Bool.not_true, Bool.false_eq_true, if_false, Option.bind_some]
    cases k == 3 <;> cases k == 11 <;> cases k == 10 <;> cases k == 4 <;> try rfl
    all_goals cases k == 5 <;> cases k == 7 <;> cases k == 8 <;> try rfl
    all_goals cases k == 9 <;> cases k == 12 <;> cases k == 13 <;> rfl
theorem Asked_eq' {c0 c1 c2 c3 k : Int} : ref21_Asked.f c0 c1 c2 c3 k = some (aq c0 c1 c2 c3 k) := by
  unfold ref21_Asked.f aq rl
  rw [may_eq']
  simp only [Option.bind_some]
  cases hm : mc c0 c1 c2 c3
  · simp
  · obtain ⟨r0, r1⟩ := (mc_range hm).1
    simp only [has4 r0 r1, has8 r0 r1, has16 r0 r1, has1 r0 r1, has32 r0 r1]
    simp only [Bool.not_true, Bool.false_eq_true, if_false, Option.bind_some]
    cases k == 3 <;> cases k == 11 <;> cases k == 10 <;> try rfl
    cases k == 4
    · cases k == 5 <;> cases k == 7 <;> cases k == 8 <;> cases k == 9 <;> cases k == 12 <;> cases k == 13 <;> cases c0 == 1 <;> cases bt c2 0 <;> cases bt c2 2 <;> cases bt c2 3 <;> cases bt c2 4 <;> cases bt c2 5 <;> rfl
    · cases c0 == 1 <;> rfl
def wr (c0 c1 c2 c3 d0 d1 d2 d3 : Int) : Int := if !(mc c0 c1 c2 c3) || !(mc d0 d1 d2 d3) then 2 else td (bt c2 3 && bt d2 1 && (!(kp d0 d1 d2 d3) || kp c0 c1 c2 c3))
theorem Wraps_eq {c0 c1 c2 c3 d0 d1 d2 d3 : Int} (h2 : I64 c2) (h3 : I64 c3) (k2 : I64 d2) (k3 : I64 d3) : policy_Wraps.f c0 c1 c2 c3 d0 d1 d2 d3 = some (wr c0 c1 c2 c3 d0 d1 d2 d3) := by
  unfold policy_Wraps.f wr
  rw [may_eq h2 h3, may_eq k2 k3, kept_eq h2 h3, kept_eq k2 k3]
  cases hm : mc c0 c1 c2 c3
  · simp
  · cases hn : mc d0 d1 d2 d3
    · simp
    · obtain ⟨r0, r1⟩ := (mc_range hm).1
      obtain ⟨s0, s1⟩ := (mc_range hn).1
      simp only [b8 r0 r1, b2 s0 s1, told_eq, Option.bind_some]
      cases bt c2 3 <;> cases bt d2 1 <;> cases kp c0 c1 c2 c3 <;> cases kp d0 d1 d2 d3 <;> rfl
theorem Wraps_eq' {c0 c1 c2 c3 d0 d1 d2 d3 : Int} : ref21_Wraps.f c0 c1 c2 c3 d0 d1 d2 d3 = some (wr c0 c1 c2 c3 d0 d1 d2 d3) := by
  unfold ref21_Wraps.f wr
  rw [may_eq', may_eq', kept_eq', kept_eq']
  cases hm : mc c0 c1 c2 c3
  · simp
  · cases hn : mc d0 d1 d2 d3
    · simp
    · obtain ⟨r0, r1⟩ := (mc_range hm).1
      obtain ⟨s0, s1⟩ := (mc_range hn).1
      simp only [has8 r0 r1, has2 s0 s1, Option.bind_some]
      cases bt c2 3 <;> cases bt d2 1 <;> cases kp c0 c1 c2 c3 <;> cases kp d0 d1 d2 d3 <;> rfl
theorem PolicyRules_law {c0 c1 c2 c3 d0 d1 d2 d3 k : Int} (hc2 : I64 c2) (hc3 : I64 c3) (hd2 : I64 d2) (hd3 : I64 d3) : law21_PolicyRules.f c0 c1 c2 c3 d0 d1 d2 d3 k = some true := by
  unfold law21_PolicyRules.f
  rw [Asked_eq hc2 hc3, Asked_eq', Wraps_eq hc2 hc3 hd2 hd3, Wraps_eq', known_eq]
  simp [num_eq]

/-! ### lowered -/
theorem andn_range_small : allNat 64 (fun n => allNat 64 fun m => decide (0 ≤ iandn .i64 n m) && decide (iandn .i64 n m ≤ 63)) = true := by kernel_rfl
theorem andn_range {a b : Int} (h0 : 0 ≤ a) (h1 : a ≤ 63) (k0 : 0 ≤ b) (k1 : b ≤ 63) : 0 ≤ iandn .i64 a b ∧ iandn .i64 a b ≤ 63 := by
  simpa using all64x (p := fun n m => decide (0 ≤ iandn .i64 n m) && decide (iandn .i64 n m ≤ 63)) andn_range_small h0 h1 k0 k1
theorem or_range_small : allNat 64 (fun n => allNat 64 fun m => decide (0 ≤ ior .i64 n m) && decide (ior .i64 n m ≤ 63)) = true := by kernel_rfl
theorem or_range {a b : Int} (h0 : 0 ≤ a) (h1 : a ≤ 63) (k0 : 0 ≤ b) (k1 : b ≤ 63) : 0 ≤ ior .i64 a b ∧ ior .i64 a b ≤ 63 := by
  simpa using all64x (p := fun n m => decide (0 ≤ ior .i64 n m) && decide (ior .i64 n m ≤ 63)) or_range_small h0 h1 k0 k1
/-- A lowered one has no bit more. -/
theorem low_bit_small : (List.range 6).all (fun k => allNat 64 fun n => allNat 64 fun m => !(bt (iandn .i64 n m) k) || bt n k) = true := by kernel_rfl
theorem low_bit {a b : Int} (h0 : 0 ≤ a) (h1 : a ≤ 63) (k0 : 0 ≤ b) (k1 : b ≤ 63) (k : Nat) (hk : k < 6) (h : bt (iandn .i64 a b) k = true) : bt a k = true := by
  have := List.all_eq_true.1 low_bit_small k (by simpa using hk)
  have h2 := all64x (p := fun n m => !(bt (iandn .i64 n m) k) || bt n k) this h0 h1 k0 k1
  rw [h] at h2
  simpa using h2
theorem low_sub_small : allNat 64 (fun n => allNat 64 fun m => sub6 (iandn .i64 n m) n) = true := by kernel_rfl
theorem sub_trans2_small : allNat 64 (fun n => allNat 64 fun m => !(sub6 n m) || Nat.beq (Nat.land n m) n) = true := by kernel_rfl
theorem sub_land {a b : Int} (h0 : 0 ≤ a) (h1 : a ≤ 63) (k0 : 0 ≤ b) (k1 : b ≤ 63) : sub6 a b = Nat.beq (Nat.land a.toNat b.toNat) a.toNat := by
  have h : allNat 64 (fun n => allNat 64 fun m => sub6 n m == Nat.beq (Nat.land n m) n) = true := by kernel_rfl
  have h2 := allNat_of h (i := a.toNat) (by omega)
  have := allNat_of h2 (i := b.toNat) (by omega)
  simpa [Int.toNat_of_nonneg h0, Int.toNat_of_nonneg k0] using this
theorem sub_trans {a b c : Int} (k0 : 0 ≤ b) (k1 : b ≤ 63) (m0 : 0 ≤ c) (m1 : c ≤ 63) (hab : sub6 a b = true) (hbc : sub6 b c = true) : sub6 a c = true := by
  obtain ⟨h0, h1⟩ := sub6_range hab
  rw [sub_land h0 h1 k0 k1] at hab
  rw [sub_land k0 k1 m0 m1] at hbc
  rw [sub_land h0 h1 m0 m1]
  have e1 := Nat.eq_of_beq_eq_true hab
  have e2 := Nat.eq_of_beq_eq_true hbc
  refine Nat.beq_eq.symm ▸ (?_ : Nat.land a.toNat c.toNat = a.toNat)
  show a.toNat &&& c.toNat = a.toNat
  have e1' : a.toNat &&& b.toNat = a.toNat := e1
  have e2' : b.toNat &&& c.toNat = b.toNat := e2
  rw [← e1', Nat.and_assoc, e2']
theorem mc_low {c0 c1 c2 c3 a : Int} (h : mc c0 c1 c2 c3 = true) (a0 : 0 ≤ a) (a1 : a ≤ 63) : mc c0 c1 (iandn .i64 c2 a) c3 = true := by
  obtain ⟨⟨r0, r1⟩, s0, s1⟩ := mc_range h
  simp only [mc, Bool.and_eq_true] at h ⊢
  refine ⟨⟨h.1.1, ?_⟩, h.2⟩
  refine sub_trans r0 r1 s0 s1 ?_ h.1.2
  simpa using all64x (p := fun n m => sub6 (iandn .i64 n m) n) low_sub_small r0 r1 a0 a1
theorem kp_low {c0 c1 c2 c3 a : Int} (h : mc c0 c1 c2 c3 = true) (a0 : 0 ≤ a) (a1 : a ≤ 63) : kp c0 c1 (iandn .i64 c2 a) c3 = kp c0 c1 c2 c3 := by
  unfold kp; rw [mc_low h a0 a1, h]
theorem rl_low {c0 c2 k a : Int} (h : ∀ j, j < 6 → bt a j = true → bt c2 j = true) : (rl c0 a k).map td = some 0 → (rl c0 c2 k).map td = some 0 := by
  have g0 := h 0 (by omega); have g2 := h 2 (by omega); have g3 := h 3 (by omega); have g4 := h 4 (by omega); have g5 := h 5 (by omega)
  unfold rl
  cases k == 3
  · cases k == 11
    · cases k == 10
      · cases k == 4
        · cases k == 5
          · cases k == 7
            · cases k == 8
              · cases k == 9
                · cases k == 12
                  · cases k == 13
                    · simp
                    · revert g5; cases bt a 5 <;> cases bt c2 5 <;> cases c0 == 1 <;> simp [td]
                  · revert g5; cases bt a 5 <;> cases bt c2 5 <;> simp [td]
                · revert g0; cases bt a 0 <;> cases bt c2 0 <;> simp [td]
              · revert g4; cases bt a 4 <;> cases bt c2 4 <;> simp [td]
            · revert g3; cases bt a 3 <;> cases bt c2 3 <;> simp [td]
          · revert g2; cases bt a 2 <;> cases bt c2 2 <;> simp [td]
        · simp
      · simp
    · simp
  · simp
theorem aq_low {c0 c1 c2 c3 k a b : Int} (h : mc c0 c1 c2 c3 = true) (a0 : 0 ≤ a) (a1 : a ≤ 63) (b0 : 0 ≤ b) (b1 : b ≤ 63) (hq : aq c0 c1 (iandn .i64 (iandn .i64 c2 a) b) c3 k = 0) : aq c0 c1 c2 c3 k = 0 := by
  obtain ⟨⟨r0, r1⟩, s0, s1⟩ := mc_range h
  obtain ⟨x0, x1⟩ := andn_range r0 r1 a0 a1
  obtain ⟨y0, y1⟩ := andn_range x0 x1 b0 b1
  have hm := mc_low (mc_low h a0 a1) b0 b1
  have hbits : ∀ j, j < 6 → bt (iandn .i64 (iandn .i64 c2 a) b) j = true → bt c2 j = true := fun j hj hb => low_bit r0 r1 a0 a1 j hj (low_bit x0 x1 b0 b1 j hj hb)
  have key := rl_low (c0 := c0) (k := k) hbits
  unfold aq at hq ⊢
  rw [hm] at hq
  rw [h]
  simp only [Bool.not_true, Bool.false_eq_true, if_false] at hq ⊢
  cases e1 : rl c0 (iandn .i64 (iandn .i64 c2 a) b) k with
  | none => rw [e1] at hq; simp at hq
  | some p =>
    rw [e1] at hq key
    simp only at hq
    have := key (by simp [hq])
    cases e2 : rl c0 c2 k with
    | none => rw [e2] at this; simp at this
    | some q => rw [e2] at this; simpa using this
theorem wr_low {c0 c1 c2 c3 d0 d1 d2 d3 a b : Int} (h : mc c0 c1 c2 c3 = true) (a0 : 0 ≤ a) (a1 : a ≤ 63) (b0 : 0 ≤ b) (b1 : b ≤ 63) (hq : wr c0 c1 (iandn .i64 (iandn .i64 c2 a) b) c3 d0 d1 d2 d3 = 0) : wr c0 c1 c2 c3 d0 d1 d2 d3 = 0 := by
  obtain ⟨⟨r0, r1⟩, s0, s1⟩ := mc_range h
  obtain ⟨x0, x1⟩ := andn_range r0 r1 a0 a1
  have hm := mc_low (mc_low h a0 a1) b0 b1
  have hb : bt (iandn .i64 (iandn .i64 c2 a) b) 3 = true → bt c2 3 = true := fun hb => low_bit r0 r1 a0 a1 3 (by omega) (low_bit x0 x1 b0 b1 3 (by omega) hb)
  unfold wr at hq ⊢
  rw [hm, kp_low (mc_low h a0 a1) b0 b1, kp_low h a0 a1] at hq
  rw [h]
  revert hb hq
  generalize bt (iandn .i64 (iandn .i64 c2 a) b) 3 = x
  cases x <;> cases bt c2 3 <;> cases mc d0 d1 d2 d3 <;> cases bt d2 1 <;> cases kp d0 d1 d2 d3 <;> cases kp c0 c1 c2 c3 <;> simp [td]
theorem andn_nat_small : allNat 64 (fun n => allNat 64 fun m => iandn .i64 n m == ((Nat.land n (63 - m) : Nat) : Int)) = true := by kernel_rfl
theorem andn_nat {a b : Int} (h0 : 0 ≤ a) (h1 : a ≤ 63) (k0 : 0 ≤ b) (k1 : b ≤ 63) : iandn .i64 a b = ((a.toNat &&& (63 - b.toNat) : Nat) : Int) := by
  have h2 := allNat_of andn_nat_small (i := a.toNat) (by omega)
  have := allNat_of h2 (i := b.toNat) (by omega)
  simpa [Int.toNat_of_nonneg h0, Int.toNat_of_nonneg k0] using this
theorem or_nat_small : allNat 64 (fun n => allNat 64 fun m => (ior .i64 n m == ((Nat.lor n m : Nat) : Int)) && Nat.beq (63 - Nat.lor n m) (Nat.land (63 - n) (63 - m))) = true := by kernel_rfl
theorem or_nat {a b : Int} (h0 : 0 ≤ a) (h1 : a ≤ 63) (k0 : 0 ≤ b) (k1 : b ≤ 63) : ior .i64 a b = ((a.toNat ||| b.toNat : Nat) : Int) ∧ 63 - (a.toNat ||| b.toNat) = (63 - a.toNat) &&& (63 - b.toNat) := by
  have h2 := allNat_of or_nat_small (i := a.toNat) (by omega)
  have := allNat_of h2 (i := b.toNat) (by omega)
  simp only [Bool.and_eq_true] at this
  obtain ⟨h3, h4⟩ := this
  refine ⟨?_, Nat.eq_of_beq_eq_true h4⟩
  simpa [Int.toNat_of_nonneg h0, Int.toNat_of_nonneg k0] using h3
theorem andn_or {a b c : Int} (h0 : 0 ≤ a) (h1 : a ≤ 63) (k0 : 0 ≤ b) (k1 : b ≤ 63) (c0 : 0 ≤ c) (c1 : c ≤ 63) : iandn .i64 (iandn .i64 c a) b = iandn .i64 c (ior .i64 a b) ∧ iandn .i64 (iandn .i64 (iandn .i64 c a) b) a = iandn .i64 (iandn .i64 c a) b := by
  obtain ⟨x0, x1⟩ := andn_range c0 c1 h0 h1
  obtain ⟨y0, y1⟩ := andn_range x0 x1 k0 k1
  obtain ⟨o0, o1⟩ := or_range h0 h1 k0 k1
  obtain ⟨e1, e2⟩ := or_nat h0 h1 k0 k1
  constructor
  · rw [andn_nat x0 x1 k0 k1, andn_nat c0 c1 h0 h1, andn_nat c0 c1 o0 o1, e1]
    simp only [Int.toNat_natCast]
    rw [e2, Nat.and_assoc]
  · rw [andn_nat y0 y1 h0 h1, andn_nat x0 x1 k0 k1, andn_nat c0 c1 h0 h1]
    simp only [Int.toNat_natCast]
    rw [Nat.and_assoc (c.toNat &&& (63 - a.toNat)), Nat.and_comm (63 - b.toNat), ← Nat.and_assoc, Nat.and_assoc c.toNat, Nat.and_self]
theorem mc_i64 {c0 c1 c2 c3 : Int} (h : mc c0 c1 c2 c3 = true) : I64 c2 ∧ I64 c3 := by
  obtain ⟨⟨r0, r1⟩, s0, s1⟩ := mc_range h
  constructor <;> constructor <;> (first | (show (-9223372036854775808 : Int) ≤ _) | (show _ ≤ (9223372036854775807 : Int))) <;> omega
theorem i64_small {a : Int} (h0 : 0 ≤ a) (h1 : a ≤ 63) : I64 a := by
  constructor <;> (first | (show (-9223372036854775808 : Int) ≤ _) | (show _ ≤ (9223372036854775807 : Int))) <;> omega
theorem lw_good {c0 c1 c2 c3 a : Int} (h : mc c0 c1 c2 c3 = true) (a0 : 0 ≤ a) (a1 : a ≤ 63) : lw c0 c1 c2 c3 a = (c0, c1, iandn .i64 c2 a, c3, 0) := by
  unfold lw; rw [h]; simp [a0, a1]
theorem lw_bad {c0 c1 c2 c3 a : Int} (h : ¬ (mc c0 c1 c2 c3 = true ∧ 0 ≤ a ∧ a ≤ 63)) : lw c0 c1 c2 c3 a = (0, 0, 0, 0, 2) := by
  unfold lw; rw [if_pos]
  cases hm : mc c0 c1 c2 c3
  · simp
  · simp [hm] at h; simp; omega
theorem mc_zero : mc 0 0 0 0 = false := by kernel_rfl
/-- The law's last step over abstract functions. -/
theorem less_law {c0 c1 c2 c3 d0 d1 d2 d3 a b k : Int} (hc2 : I64 c2) (hc3 : I64 c3) (hd2 : I64 d2) (hd3 : I64 d3) (ha : I64 a) (hb : I64 b) : law21_PolicyLess.f c0 c1 c2 c3 d0 d1 d2 d3 a b k = some true := by
  have z : I64 0 := i64_small (by omega) (by omega)
  unfold law21_PolicyLess.f
  rw [Lower_eq hc2 hc3 ha, known_eq]
  by_cases h : mc c0 c1 c2 c3 = true ∧ 0 ≤ a ∧ a ≤ 63
  · obtain ⟨hm, a0, a1⟩ := h
    obtain ⟨⟨r0, r1⟩, s0, s1⟩ := mc_range hm
    obtain ⟨x0, x1⟩ := andn_range r0 r1 a0 a1
    rw [lw_good hm a0 a1]
    simp only [Option.bind_some]
    rw [Lower_eq (i64_small x0 x1) hc3 hb]
    by_cases h2 : 0 ≤ b ∧ b ≤ 63
    · obtain ⟨b0, b1⟩ := h2
      obtain ⟨y0, y1⟩ := andn_range x0 x1 b0 b1
      obtain ⟨o0, o1⟩ := or_range a0 a1 b0 b1
      have hm2 := mc_low hm a0 a1
      have hm3 := mc_low hm2 b0 b1
      obtain ⟨e1, e2⟩ := andn_or a0 a1 b0 b1 r0 r1
      rw [lw_good hm2 b0 b1]
      simp only [Option.bind_some]
      rw [Lower_eq hc2 hc3 (i64_small o0 o1), lw_good hm o0 o1, Lower_eq (i64_small y0 y1) hc3 ha, lw_good hm3 a0 a1, e2, ← e1, kept_eq (i64_small y0 y1) hc3, kept_eq hc2 hc3, kp_low hm2 b0 b1, kp_low hm a0 a1, Asked_eq (i64_small y0 y1) hc3, Asked_eq hc2 hc3, Wraps_eq (i64_small y0 y1) hc3 hd2 hd3, Wraps_eq hc2 hc3 hd2 hd3]
      have q1 := aq_low (k := k) hm a0 a1 b0 b1
      have q2 := wr_low (d0 := d0) (d1 := d1) (d2 := d2) (d3 := d3) hm a0 a1 b0 b1
      have w0 : IntKind.i64.wrap ((0 : Int) + 0) = 0 := by rfl
      simp only [num_eq, Option.bind_some, nm, beq_self_eq_true, bne_self_eq_false, w0, Bool.and_true, Bool.not_true, Bool.false_eq_true, if_false, if_true]
      generalize aq c0 c1 (iandn .i64 (iandn .i64 c2 a) b) c3 k = x at q1 ⊢
      generalize wr c0 c1 (iandn .i64 (iandn .i64 c2 a) b) c3 d0 d1 d2 d3 = y at q2 ⊢
      by_cases hx : x = 0
      · have q1' := q1 hx; subst hx; rw [q1']
        by_cases hy : y = 0
        · have q2' := q2 hy; subst hy; rw [q2']; rfl
        · have : (y != 0) = true := by simpa using hy
          simp [this]
      · have : (x != 0) = true := by simpa using hx
        simp only [this, if_true, Option.bind_some]
        by_cases hy : y = 0
        · have q2' := q2 hy; subst hy; rw [q2']; rfl
        · have : (y != 0) = true := by simpa using hy
          simp [this]
    · rw [lw_bad (fun ⟨_, h3, h4⟩ => h2 ⟨h3, h4⟩)]
      rfl
  · rw [lw_bad h]
    simp only [Option.bind_some]
    rw [Lower_eq z z hb, lw_bad (by rw [mc_zero]; simp)]
    rfl
theorem PolicyLess_law {c0 c1 c2 c3 d0 d1 d2 d3 a b k : Int} (hc2 : I64 c2) (hc3 : I64 c3) (hd2 : I64 d2) (hd3 : I64 d3) (ha : I64 a) (hb : I64 b) : law21_PolicyLess.f c0 c1 c2 c3 d0 d1 d2 d3 a b k = some true := less_law hc2 hc3 hd2 hd3 ha hb
end Go.Proofs.Ytbnmoonelaolcaa
