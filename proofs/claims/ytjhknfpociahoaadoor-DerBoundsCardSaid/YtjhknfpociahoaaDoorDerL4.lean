import Derived.Test.YtjhknfpociahoaaDoorDerL3
namespace Go.Proofs.YtjhknfpociahoaaDoor
open Go Go.HW Go.RowKit
set_option linter.unusedVariables false
set_option linter.unusedSimpArgs false

@[simp] theorem mk_kind (k f n b s a ks) : Der.kind (Der.mk k f n b s a ks) = k := rfl
@[simp] theorem mk_flag (k f n b s a ks) : Der.flag (Der.mk k f n b s a ks) = f := rfl
@[simp] theorem mk_num (k f n b s a ks) : Der.num (Der.mk k f n b s a ks) = n := rfl
@[simp] theorem mk_bytes (k f n b s a ks) : Der.bytes (Der.mk k f n b s a ks) = b := rfl
@[simp] theorem mk_text (k f n b s a ks) : Der.text (Der.mk k f n b s a ks) = s := rfl
@[simp] theorem mk_arcs (k f n b s a ks) : Der.arcs (Der.mk k f n b s a ks) = a := rfl
@[simp] theorem mk_kids (k f n b s a ks) : Tree.kids (Der.mk k f n b s a ks) = ks := rfl

/-! ### which values may be -/
def tagOf (v : Der) : Int := if Der.kind v < 1 ∨ 11 ≤ Der.kind v then 0 else if Der.kind v = 8 then 160 + Int.tmod (Der.num v) 31 else [0, 1, 2, 3, 4, 6, 12, 48, 160, 49, 24].getD (Der.kind v).toNat 0
theorem tm31 (n : Int) : -31 < Int.tmod n 31 ∧ Int.tmod n 31 < 31 := ⟨Int.lt_tmod_of_pos n (by decide), Int.tmod_lt_of_pos n (by decide)⟩
theorem rtag_eq (v : Der) : ref13_tag.f v = some (tagOf v) := by
  unfold ref13_tag.f tagOf
  have h31 := tm31 (Der.num v)
  by_cases h1 : Der.kind v < 1
  · simp [h1]
  · by_cases h2 : (11 : Int) ≤ Der.kind v
    · simp [h1, h2]
    · by_cases h8 : Der.kind v = 8
      · simp only [h8]
        rw [w64 (by omega) (by omega)]
        simp
      · simp [h1, h2, h8]
        rw [rq (by omega), rq (by omega)]
def dig (t : List UInt8) (i : Nat) : Bool := decide (48 ≤ chr t i) && decide (chr t i ≤ 57)
def timeB (t : List UInt8) : Bool := (t.length == 15) && (chr t 14 == 90) && (List.range 14).all (dig t)
def arcsB (a : List Int) : Bool := decide (2 ≤ a.length) && decide (a.length ≤ 16) && decide (a.getD 0 0 ≤ 2) && (a.getD 0 0 == 2 || decide (a.getD 1 0 < 40)) && a.all (fun x => decide (x < 2147483648))
def textB (v : Der) : Bool := if Der.kind v = 10 then timeB (Der.text v) else if Der.kind v = 6 then Lib.validD (Der.text v) else Der.text v == []
def ownB (v : Der) : Bool :=
  decide (1 ≤ Der.kind v) && decide (Der.kind v ≤ 10) && (if Der.kind v = 5 then arcsB (Der.arcs v) else Der.arcs v == []) && textB v &&
  (Der.num v == 0 || Der.kind v == 2 || (Der.kind v == 8 && decide (0 ≤ Der.num v) && decide (Der.num v ≤ 30))) &&
  (if Der.kind v = 8 ∨ Der.kind v = 9 then decide ((Tree.kids v).length = 1) else if Der.kind v = 7 then true else decide ((Tree.kids v).length = 0)) &&
  (!Der.flag v || Der.kind v == 1) && (Der.bytes v == [] || Der.kind v == 3 || Der.kind v == 4)
def mayB : Nat → Der → Bool
  | 0, _ => false
  | d + 1, v => ownB v && (Tree.kids v).all (mayB d)

theorem own_L0 (v : Der) (h : (Der.arcs v).length ≤ 1048576) : ∀ (d i k : Nat) (b : Bool), i + d = (Der.arcs v).length → d < k → ref13_own.L0 v k b (i : Int) = some (b && (List.range' i d).all (fun i => decide ((Der.arcs v).getD i 0 < 2147483648)))
  | 0, i, k, b, hi, hk => by
    obtain ⟨k, rfl⟩ : ∃ q, k = q + 1 := ⟨k - 1, by omega⟩
    rw [ref13_own.L0, if_neg (by simp; omega)]; simp
  | d + 1, i, k, b, hi, hk => by
    obtain ⟨k, rfl⟩ : ∃ q, k = q + 1 := ⟨k - 1, by omega⟩
    have ih := fun b => own_L0 v h d (i + 1) k b (by omega) (by omega)
    rw [ref13_own.L0, if_pos (by simp; omega), suc (show i < (Der.arcs v).length by omega) h, rq (by omega), rq (by omega), nmE, List.range'_succ, List.all_cons, Int.toNat_natCast]
    generalize ((i + 1 : Nat) : Int) = z at *
    cases b <;> simp [ih]
theorem range_all {α : Type} (xs : List α) (d : α) (f : α → Bool) : (List.range xs.length).all (fun i => f (xs.getD i d)) = xs.all f := by
  have := congrArg (fun l => l.all f) (range_getD xs d)
  simpa [List.all_map, Function.comp_def] using this
theorem own_L0' (v : Der) (h : (Der.arcs v).length ≤ 1048576) (b : Bool) : ref13_own.L0 v ((Der.arcs v).length + 1) b 0 = some (b && (Der.arcs v).all (fun x => decide (x < 2147483648))) := by
  have := own_L0 v h (Der.arcs v).length 0 ((Der.arcs v).length + 1) b (by omega) (by omega)
  rw [← List.range_eq_range', range_all (Der.arcs v) 0 (fun x => decide (x < 2147483648))] at this
  exact this
theorem own_L1 (v : Der) (h : (Der.text v).length = 15) : ∀ (d i k : Nat) (b : Bool), i + d = 14 → d < k → ref13_own.L1 v k b (i : Int) = some (b && (List.range' i d).all (dig (Der.text v)))
  | 0, i, k, b, hi, hk => by
    obtain ⟨k, rfl⟩ : ∃ q, k = q + 1 := ⟨k - 1, by omega⟩
    rw [ref13_own.L1, if_neg (by simp; omega)]; simp
  | d + 1, i, k, b, hi, hk => by
    obtain ⟨k, rfl⟩ : ∃ q, k = q + 1 := ⟨k - 1, by omega⟩
    have ih := fun b => own_L1 v h d (i + 1) k b (by omega) (by omega)
    rw [ref13_own.L1, if_pos (by simp; omega), suc (show i < 14 by omega) (by omega), rq (by omega), rq (by omega), List.range'_succ, List.all_cons, Int.toNat_natCast]
    generalize ((i + 1 : Nat) : Int) = z at *
    cases b
    · simp
    · rw [show dig (Der.text v) i = (decide (48 ≤ chr (Der.text v) i) && decide (chr (Der.text v) i ≤ 57)) from rfl]
      by_cases c : (48 : Int) ≤ chr (Der.text v) i <;> simp [c, ih]
theorem own_L1f (v : Der) (k : Nat) : ref13_own.L1 v (k + 1) false 0 = some false := by rw [ref13_own.L1]; simp
theorem time_eq (v : Der) : ((if (((Der.text v).length : Int) == 15) = true then (req ((14 : Int) < ((Der.text v).length : Int)) (some ((chr (Der.text v) (14 : Int).toNat) == 90))) else (some false)).bind fun q167 => (ref13_own.L1 v ((14 : Int).toNat + 1) q167 0).bind fun z6_251 => some z6_251) = some (timeB (Der.text v)) := by
  unfold timeB
  by_cases h : (Der.text v).length = 15
  · rw [if_pos (by simp; omega), rq (by omega)]
    have := own_L1 v h 14 0 15 (chr (Der.text v) 14 == 90) (by omega) (by omega)
    rw [← List.range_eq_range'] at this
    simp only [Option.bind_some]
    rw [show ((14 : Int).toNat + 1) = 15 from rfl, show (0 : Int) = ((0 : Nat) : Int) from rfl, show (14 : Int).toNat = 14 from rfl, this]
    simp [h]
  · rw [if_neg (by simp; omega)]
    simp only [Option.bind_some]
    rw [show ((14 : Int).toNat + 1) = 14 + 1 from rfl, own_L1f]
    simp [h]
theorem arcs_eq (v : Der) (h : (Der.arcs v).length ≤ 1048576) : ((if (decide (2 ≤ ((Der.arcs v).length : Int))) = true then (some (decide (((Der.arcs v).length : Int) ≤ 16))) else (some false)).bind fun q10 => (if q10 = true then (req ((0 : Int) < ((Der.arcs v).length : Int)) (nm (decide (((Der.arcs v).getD ((0 : Int).toNat) 0) ≤ 2)) fun t26 => some t26)) else (some false)).bind fun q18 => (if q18 = true then (req ((0 : Int) < ((Der.arcs v).length : Int)) ((if (((Der.arcs v).getD ((0 : Int).toNat) 0) == 2) = true then (some true) else (req ((1 : Int) < ((Der.arcs v).length : Int)) (nm (decide (((Der.arcs v).getD ((1 : Int).toNat) 0) < 40)) fun t49 => some t49))).bind fun q40 => some q40)) else (some false)).bind fun q31 => (ref13_own.L0 v (((Der.arcs v).length : Int).toNat + 1) q31 0).bind fun z4_123 => some z4_123) = some (arcsB (Der.arcs v)) := by
  unfold arcsB
  by_cases h2 : 2 ≤ (Der.arcs v).length
  · rw [if_pos (by simp; omega), rq (by omega), rq (by omega), rq (by omega)]
    simp only [Option.bind_some, nmE, Int.toNat_natCast, own_L0' v h]
    have e : decide (((Der.arcs v).length : Int) ≤ 16) = decide ((Der.arcs v).length ≤ 16) := by rw [decide_eq_decide]; omega
    rw [e, show (0 : Int).toNat = 0 from rfl, show (1 : Int).toNat = 1 from rfl]
    have e2 : decide (2 ≤ (Der.arcs v).length) = true := by simp [h2]
    rw [e2]
    by_cases c1 : (Der.arcs v).length ≤ 16
    · by_cases c2 : (Der.arcs v).getD 0 0 ≤ 2
      · by_cases c3 : (Der.arcs v).getD 0 0 = 2
        · simp only [c1, c2, c3, decide_true, if_true, Option.bind_some, own_L0' v h]; simp
        · simp only [c1, c2, beq_eq_false_iff_ne.2 c3, decide_true, if_true, Bool.false_eq_true, if_false, Option.bind_some, own_L0' v h]; simp
      · simp only [c1, c2, decide_true, decide_false, if_true, Bool.false_eq_true, if_false, Option.bind_some, own_L0' v h]; simp
    · simp only [c1, decide_false, Bool.false_eq_true, if_false, Option.bind_some, own_L0' v h]; simp
  · rw [if_neg (by simp; omega)]
    simp only [Option.bind_some, Bool.false_eq_true, if_false, Int.toNat_natCast, own_L0' v h]; simp [h2]
theorem ite_some {α : Type} (c : Prop) [Decidable c] (a b : α) : (if c then some a else some b) = some (if c then a else b) := by split <;> rfl
theorem len0 {α : Type} [BEq α] [LawfulBEq α] (l : List α) : ((l.length : Int) == 0) = (l == []) := by cases l <;> simp; omega
theorem len0' {α : Type} (l : List α) : ((l.length : Int) == 0) = decide (l.length = 0) := by rw [Bool.eq_iff_iff]; simp
theorem len1' {α : Type} (l : List α) : ((l.length : Int) == 1) = decide (l.length = 1) := by rw [Bool.eq_iff_iff]; simp; omega
theorem kinds (k : Int) : k < 1 ∨ 11 ≤ k ∨ k = 1 ∨ k = 2 ∨ k = 3 ∨ k = 4 ∨ k = 5 ∨ k = 6 ∨ k = 7 ∨ k = 8 ∨ k = 9 ∨ k = 10 := by omega
theorem rown_eq (v : Der) (ht : tot v ≤ 1048576) : ref13_own.f v = some (ownB v) := by
  unfold ref13_own.f
  have hv := tot_eq v
  rw [arcs_eq v (by omega), time_eq v, rtag_eq v]
  have h31 := tm31 (Der.num v)
  unfold ownB textB tagOf
  rw [rq (by omega)]
  simp only [ite_some, Option.bind_some, nmE, len0, len0', len1']
  congr 1
  generalize arcsB (Der.arcs v) = A
  generalize (Der.arcs v == []) = A0
  generalize timeB (Der.text v) = T
  generalize Lib.validD (Der.text v) = V
  generalize (Der.text v == []) = T0
  generalize (Der.bytes v == []) = B0
  generalize decide ((Tree.kids v).length = 0) = K0
  generalize decide ((Tree.kids v).length = 1) = K1
  generalize Der.flag v = F
  have ht : (0 : Int) < 160 + (Der.num v).tmod 31 := by omega
  generalize Int.tmod (Der.num v) 31 = tm at *
  generalize (Der.num v == 0) = N0
  generalize decide (0 ≤ Der.num v) = N1
  generalize decide (Der.num v ≤ 30) = N2
  rcases kinds (Der.kind v) with h | h | h | h | h | h | h | h | h | h | h | h
  · have h1 : ¬ (1 : Int) ≤ Der.kind v := by omega
    simp [h, h1]
  · have h1 : ¬ Der.kind v ≤ (10 : Int) := by omega
    simp [h, h1]
  all_goals (rw [h]; cases A <;> cases A0 <;> cases T0 <;> cases B0 <;> cases F <;> simp [ht])
end Go.Proofs.YtjhknfpociahoaaDoor
