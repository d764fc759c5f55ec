import Derived.Test.YtjhknfpociahoaaDoorDerL8
namespace Go.Proofs.YtjhknfpociahoaaDoor
open Go Go.HW Go.RowKit
set_option linter.unusedVariables false
set_option linter.unusedSimpArgs false

/-! ### heads -/
theorem u8_at {b : List Int} (h : U8L b) (i : Nat) : 0 ≤ b.getD i 0 ∧ b.getD i 0 ≤ 255 := by
  by_cases hi : i < b.length
  · exact h _ (getD_mem hi)
  · simp [List.getElem?_eq_none (show b.length ≤ i by omega)]
/-- How long is a head, and what stands in it? -/
def headL (b : List Int) : Option (Nat × Nat) :=
  if b.length < 2 then none else if b.getD 1 0 = 129 ∧ 3 ≤ b.length then some (3, (b.getD 2 0).toNat)
  else if b.getD 1 0 = 130 ∧ 4 ≤ b.length then some (4, 256 * (b.getD 2 0).toNat + (b.getD 3 0).toNat)
  else if 128 ≤ b.getD 1 0 then none else some (2, (b.getD 1 0).toNat)
theorem rhead_eq (b : List Int) (hb : U8L b) (hl : b.length ≤ 1048576) : ref13_head.f b = some (match headL b with | none => (0, 0, false) | some (f, n) => ((f : Int), ((f + n : Nat) : Int), decide (f + n ≤ b.length))) := by
  unfold ref13_head.f headL
  have h1 := u8_at hb 1
  have h2 := u8_at hb 2
  have h3 := u8_at hb 3
  by_cases c0 : b.length < 2
  · rw [if_pos (by simp; omega), if_pos c0]
  · rw [if_neg (by simp; omega), if_neg c0, rq (by omega), show (1 : Int).toNat = 1 from rfl, show (2 : Int).toNat = 2 from rfl, show (3 : Int).toNat = 3 from rfl]
    by_cases c1 : b.getD 1 0 = 129
    · rw [c1]
      by_cases d1 : 3 ≤ b.length
      · have e1 : decide ((3 : Int) ≤ b.length) = true := by simp; omega
        rw [e1]
        simp only [BEq.rfl, if_true, Option.bind_some, nmE]
        rw [rq (by omega), w64 (n := b.getD 2 0) (by omega) (by omega), w64 (n := 3 + b.getD 2 0) (by omega) (by omega)]
        rw [if_pos ⟨trivial, d1⟩]
        simp only
        congr 1
        rw [Prod.mk.injEq, Prod.mk.injEq]
        exact ⟨rfl, by omega, by rw [decide_eq_decide]; omega⟩
      · have e1 : decide ((3 : Int) ≤ b.length) = false := by simp; omega
        rw [e1]
        simp [d1]
    · have e0 : (b.getD 1 0 == 129) = false := beq_eq_false_iff_ne.2 c1
      rw [e0]
      simp only [Bool.false_eq_true, if_false, Option.bind_some]
      rw [if_neg (show ¬ (b.getD 1 0 = 129 ∧ 3 ≤ b.length) from fun h => c1 h.1)]
      by_cases c2 : b.getD 1 0 = 130
      · rw [c2]
        by_cases d1 : 4 ≤ b.length
        · have e1 : decide ((4 : Int) ≤ b.length) = true := by simp; omega
          rw [e1]
          simp only [BEq.rfl, if_true, Option.bind_some, nmE]
          rw [rq (by omega), rq (by omega), w64 (n := b.getD 2 0) (by omega) (by omega), w64 (n := b.getD 3 0) (by omega) (by omega), w64 (n := 256 * b.getD 2 0) (by omega) (by omega), w64 (n := 256 * b.getD 2 0 + b.getD 3 0) (by omega) (by omega), w64 (n := 4 + (256 * b.getD 2 0 + b.getD 3 0)) (by omega) (by omega)]
          rw [if_pos ⟨trivial, d1⟩]
          simp only
          congr 1
          rw [Prod.mk.injEq, Prod.mk.injEq]
          exact ⟨rfl, by omega, by rw [decide_eq_decide]; omega⟩
        · have e1 : decide ((4 : Int) ≤ b.length) = false := by simp; omega
          rw [e1]
          simp [d1]
      · have e2 : (b.getD 1 0 == 130) = false := beq_eq_false_iff_ne.2 c2
        rw [e2]
        simp only [Bool.false_eq_true, if_false, Option.bind_some, nmE]
        rw [if_neg (show ¬ (b.getD 1 0 = 130 ∧ 4 ≤ b.length) from fun h => c2 h.1)]
        by_cases c3 : (128 : Int) ≤ b.getD 1 0
        · simp only [c3, decide_true, if_true]
        · simp only [c3, decide_false, Bool.false_eq_true, if_false]
          rw [w64 (n := b.getD 1 0) (by omega) (by omega), w64 (n := 2 + b.getD 1 0) (by omega) (by omega)]
          congr 1
          rw [Prod.mk.injEq, Prod.mk.injEq]
          exact ⟨rfl, by omega, by rw [decide_eq_decide]; omega⟩
theorem shl8_or_all : ∀ x : Fin 256, ishl .i64 (x.val : Int) 8 = ((256 * x.val : Nat) : Int) := by decide +kernel
theorem or_low (a b : Nat) (hb : b < 256) (ha : a < 2 ^ 54) : ior .i64 ((256 * a : Nat) : Int) ((b : Nat) : Int) = ((256 * a + b : Nat) : Int) := by
  unfold ior
  have e : (BitVec.ofInt 64 ((256 * a : Nat) : Int) ||| BitVec.ofInt 64 ((b : Nat) : Int)).toNat = 256 * a + b := by
    rw [BitVec.toNat_or, BitVec.ofInt_natCast, BitVec.ofInt_natCast, BitVec.toNat_ofNat, BitVec.toNat_ofNat, Nat.mod_eq_of_lt (by omega), Nat.mod_eq_of_lt (by omega)]
    have := Nat.two_pow_add_eq_or_of_lt (i := 8) (b := b) (by omega) a
    rw [show (256 : Nat) = 2 ^ 8 from rfl, ← this]
  rw [show IntKind.i64.bits = 64 from rfl, e]
  exact w64 (by omega) (by omega)
theorem dhead_eq (b : List Int) (hb : U8L b) (hl : b.length ≤ 1048576) : der_header.f b = some (match headL b with | none => (0, 0, 0, false) | some (f, n) => (b.getD 0 0, (f : Int), (n : Int), decide (f + n ≤ b.length))) := by
  unfold der_header.f headL
  have h1 := u8_at hb 1
  have h2 := u8_at hb 2
  have h3 := u8_at hb 3
  by_cases c0 : b.length < 2
  · rw [if_pos (by simp; omega), if_pos c0]
  · rw [if_neg (by simp; omega), if_neg c0, rq (by omega), show (1 : Int).toNat = 1 from rfl, show (2 : Int).toNat = 2 from rfl, show (3 : Int).toNat = 3 from rfl, show (0 : Int).toNat = 0 from rfl]
    rw [w64 (n := b.getD 1 0) (by omega) (by omega), w64 (n := b.getD 2 0) (by omega) (by omega), w64 (n := b.getD 3 0) (by omega) (by omega)]
    simp only [nmE]
    by_cases c1 : b.getD 1 0 = 129
    · rw [c1]
      by_cases d1 : 3 ≤ b.length
      · have e1 : decide ((2 : Int) < b.length) = true := by simp; omega
        rw [e1]
        simp only [BEq.rfl, if_true, Option.bind_some, nmE]
        rw [rq (by omega), rq (by omega), w64 (n := 3 + b.getD 2 0) (by omega) (by omega)]
        rw [if_pos ⟨trivial, d1⟩]
        simp only
        congr 1
        rw [Prod.mk.injEq, Prod.mk.injEq, Prod.mk.injEq]
        exact ⟨rfl, rfl, by omega, by rw [decide_eq_decide]; omega⟩
      · have e1 : decide ((2 : Int) < b.length) = false := by simp; omega
        rw [e1]
        simp [d1]
    · have e0 : (b.getD 1 0 == 129) = false := beq_eq_false_iff_ne.2 c1
      rw [e0]
      simp only [Bool.false_eq_true, if_false, Option.bind_some]
      rw [if_neg (show ¬ (b.getD 1 0 = 129 ∧ 3 ≤ b.length) from fun h => c1 h.1)]
      by_cases c2 : b.getD 1 0 = 130
      · rw [c2]
        by_cases d1 : 4 ≤ b.length
        · have e1 : decide ((3 : Int) < b.length) = true := by simp; omega
          have es : ishl .i64 (b.getD 2 0) 8 = ((256 * (b.getD 2 0).toNat : Nat) : Int) := by
            have := shl8_or_all ⟨(b.getD 2 0).toNat, by omega⟩
            rwa [show (((b.getD 2 0).toNat : Nat) : Int) = b.getD 2 0 by omega] at this
          have eo : ior .i64 ((256 * (b.getD 2 0).toNat : Nat) : Int) (b.getD 3 0) = ((256 * (b.getD 2 0).toNat + (b.getD 3 0).toNat : Nat) : Int) := by
            have := or_low (b.getD 2 0).toNat (b.getD 3 0).toNat (by omega) (by omega)
            rwa [show (((b.getD 3 0).toNat : Nat) : Int) = b.getD 3 0 by omega] at this
          rw [e1]
          simp only [BEq.rfl, if_true, Option.bind_some, nmE, es, eo]
          rw [rq (by omega), rq (by omega), rq (by omega), w64 (n := 4 + ((256 * (b.getD 2 0).toNat + (b.getD 3 0).toNat : Nat) : Int)) (by omega) (by omega)]
          rw [if_pos ⟨trivial, d1⟩]
          simp only
          congr 1
          rw [Prod.mk.injEq, Prod.mk.injEq, Prod.mk.injEq]
          exact ⟨rfl, rfl, by omega, by rw [decide_eq_decide]; omega⟩
        · have e1 : decide ((3 : Int) < b.length) = false := by simp; omega
          rw [e1]
          simp [d1]
      · have e2 : (b.getD 1 0 == 130) = false := beq_eq_false_iff_ne.2 c2
        rw [e2]
        simp only [Bool.false_eq_true, if_false, Option.bind_some, nmE]
        rw [if_neg (show ¬ (b.getD 1 0 = 130 ∧ 4 ≤ b.length) from fun h => c2 h.1)]
        by_cases c3 : (128 : Int) ≤ b.getD 1 0
        · have e3 : decide ((127 : Int) < b.getD 1 0) = true := decide_eq_true (by omega)
          rw [e3, if_pos rfl, if_pos c3]
        · have e3 : decide ((127 : Int) < b.getD 1 0) = false := decide_eq_false (by omega)
          rw [e3, if_neg (by simp), if_neg c3, rq (by omega), w64 (n := 2 + b.getD 1 0) (by omega) (by omega)]
          congr 1
          rw [Prod.mk.injEq, Prod.mk.injEq, Prod.mk.injEq]
          exact ⟨rfl, rfl, by omega, by rw [decide_eq_decide]; omega⟩
/-- The head of packed bytes. -/
theorem head_hdr (t : Int) (n : Nat) (hn : n < 65536) (r : List Int) : headL (hdr t n ++ r) = some ((hdr t n).length, n) ∧ (hdr t n ++ r).getD 0 0 = t := by
  unfold hdr
  by_cases c1 : n < 128
  · rw [if_pos c1]
    refine ⟨?_, rfl⟩
    unfold headL
    have e : ([t, (n : Int)] ++ r).getD 1 0 = (n : Int) := rfl
    rw [e, if_neg (by simp), if_neg (by omega), if_neg (by omega), if_neg (by omega)]
    simp
  · rw [if_neg c1]
    by_cases c2 : n < 256
    · rw [if_pos c2]
      refine ⟨?_, rfl⟩
      unfold headL
      have e : ([t, 129, (n : Int)] ++ r).getD 1 0 = 129 := rfl
      have e2 : ([t, 129, (n : Int)] ++ r).getD 2 0 = (n : Int) := rfl
      rw [e, e2, if_neg (by simp), if_pos (by simp)]
      simp
    · rw [if_neg c2]
      refine ⟨?_, rfl⟩
      unfold headL
      have e : ([t, 130, ((n / 256 % 256 : Nat) : Int), ((n % 256 : Nat) : Int)] ++ r).getD 1 0 = 130 := rfl
      have e2 : ([t, 130, ((n / 256 % 256 : Nat) : Int), ((n % 256 : Nat) : Int)] ++ r).getD 2 0 = ((n / 256 % 256 : Nat) : Int) := rfl
      have e3 : ([t, 130, ((n / 256 % 256 : Nat) : Int), ((n % 256 : Nat) : Int)] ++ r).getD 3 0 = ((n % 256 : Nat) : Int) := rfl
      rw [e, e2, e3, if_neg (by simp), if_neg (by omega), if_pos (by simp), Int.toNat_natCast, Int.toNat_natCast]
      congr 2
      omega
end Go.Proofs.YtjhknfpociahoaaDoor
