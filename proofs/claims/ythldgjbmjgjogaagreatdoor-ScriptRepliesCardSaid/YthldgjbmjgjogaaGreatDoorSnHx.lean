import Derived.Test.YthldgjbmjgjogaaGreatDoorSa2
import Derived.Lib.ItoaLen
namespace Go.Proofs.YthldgjbmjgjogaaGreatDoor
open Go Go.HW Go.RowKit
set_option linter.unusedVariables false
set_option linter.unusedSimpArgs false
set_option maxRecDepth 20000

theorem reqT {α : Type} {p : Prop} [Decidable p] {x : Option α} (h : p) : req p x = x := if_pos h
theorem ff {b : Bool} {α : Type} {x y : α} (h : b = false) : (if b = true then x else y) = y := if_neg (by rw [h]; exact Bool.false_ne_true)
theorem sdrop {α : Type} {xs : List α} {d : α} {i : Nat} (h : i < xs.length) : xs.drop i = xs.getD i d :: xs.drop (i + 1) := by
  rw [List.drop_eq_getElem_cons h, List.getD_eq_getElem?_getD, List.getElem?_eq_getElem h]; rfl
theorem sgetD_mem {α : Type} {xs : List α} {d : α} {i : Nat} (h : i < xs.length) : xs.getD i d ∈ xs := by
  rw [List.getD_eq_getElem?_getD, List.getElem?_eq_getElem h]; exact List.getElem_mem h
abbrev IsB (xs : List Int) : Prop := ∀ x ∈ xs, 0 ≤ x ∧ x < 256
/-! ### digits -/
abbrev hxT : List UInt8 := [48, 49, 50, 51, 52, 53, 54, 55, 56, 57, 97, 98, 99, 100, 101, 102]
def hx2 (x : Int) : List Int := [chr hxT (IntKind.u8.wrap (Int.tdiv x 16)).toNat, chr hxT (Int.tmod x 16).toNat]
def hxL (xs : List Int) : List Int := (xs.map hx2).flatten
theorem hxFacts : ∀ n : Nat, n < 256 → 0 ≤ IntKind.u8.wrap (Int.tdiv (n : Int) 16) ∧ IntKind.u8.wrap (Int.tdiv (n : Int) 16) < (hxT.length : Int) ∧ 0 ≤ Int.tmod (n : Int) 16 ∧ Int.tmod (n : Int) 16 < (hxT.length : Int) ∧ ishr .u8 (n : Int) 4 = IntKind.u8.wrap (Int.tdiv (n : Int) 16) ∧ iand .u8 (n : Int) 15 = Int.tmod (n : Int) 16 := of_decide_eq_true (by kernel_rfl)
theorem hxFact {x : Int} (h : 0 ≤ x ∧ x < 256) : 0 ≤ IntKind.u8.wrap (Int.tdiv x 16) ∧ IntKind.u8.wrap (Int.tdiv x 16) < (hxT.length : Int) ∧ 0 ≤ Int.tmod x 16 ∧ Int.tmod x 16 < (hxT.length : Int) ∧ ishr .u8 x 4 = IntKind.u8.wrap (Int.tdiv x 16) ∧ iand .u8 x 15 = Int.tmod x 16 := by
  obtain ⟨n, rfl⟩ : ∃ n : Nat, x = n := ⟨x.toNat, by omega⟩
  exact hxFacts n (by omega)
theorem hxL_len (xs : List Int) : (hxL xs).length = 2 * xs.length := by
  induction xs with
  | nil => rfl
  | cons x r ih =>
    show (hx2 x ++ hxL r).length = _
    rw [List.length_append, ih, List.length_cons]; show 2 + _ = _; omega
theorem wnext {i : Nat} (h : i < 1099511627776) : IntKind.i64.wrap ((i : Int) + 1) = ((i + 1 : Nat) : Int) := by
  rw [IntKind.wrap_i64]; omega
section
variable {xs : List Int} (hb : IsB xs) (hl : xs.length ≤ 100000000000)
include hb hl
theorem ref01_Hex_L0 : ∀ (k i : Nat) (y : List Int), xs.length - i < k → i ≤ xs.length → y.length = 2 * i → ref01_Hex.L0 xs k y (i : Int) = some (y ++ hxL (xs.drop i))
  | 0, i, y, h, _, _ => by omega
  | k + 1, i, y, h, hi, hy => by
    rw [ref01_Hex.L0]
    by_cases c : i < xs.length
    · have c' : (i : Int) < (xs.length : Int) := by omega
      obtain ⟨f1, f2, f3, f4, f5, f6⟩ := hxFact (hb _ (sgetD_mem (d := 0) c))
      simp only [c', decide_true, if_true, nm, Int.toNat_natCast]
      rw [reqT (show (0 : Int) ≤ (i : Int) by omega), reqT trivial, reqT f1]
      refine (reqT f2).trans ?_
      rw [reqT f3]
      refine (reqT f4).trans ?_
      rw [reqT (by simp; omega), wnext (by omega)]
      rw [ref01_Hex_L0 k (i + 1) _ (by omega) (by omega) (by simp; omega), sdrop (d := 0) c]
      simp [hxL, hx2]
    · have c' : ¬ (i : Int) < (xs.length : Int) := by omega
      simp only [c', decide_false, Bool.false_eq_true, if_false]
      rw [List.drop_eq_nil_of_le (by omega)]; simp [hxL]
theorem wire_Hex_L0 : ∀ (k i : Nat) (y : List Int), xs.length - i < k → i ≤ xs.length → y.length = 2 * i → wire_Hex.L0 xs k y (i : Int) = some (y ++ hxL (xs.drop i))
  | 0, i, y, h, _, _ => by omega
  | k + 1, i, y, h, hi, hy => by
    rw [wire_Hex.L0]
    by_cases c : i < xs.length
    · have c' : (i : Int) < (xs.length : Int) := by omega
      obtain ⟨f1, f2, f3, f4, f5, f6⟩ := hxFact (hb _ (sgetD_mem (d := 0) c))
      simp only [c', decide_true, if_true, nm, Int.toNat_natCast]
      simp only [f5, f6]
      rw [reqT (show (0 : Int) ≤ (i : Int) by omega), reqT trivial, reqT f1]
      refine (reqT f2).trans ?_
      rw [reqT f3]
      refine (reqT f4).trans ?_
      rw [reqT (by simp; omega), wnext (by omega)]
      rw [wire_Hex_L0 k (i + 1) _ (by omega) (by omega) (by simp; omega), sdrop (d := 0) c]
      simp [hxL, hx2]
    · have c' : ¬ (i : Int) < (xs.length : Int) := by omega
      simp only [c', decide_false, Bool.false_eq_true, if_false]
      rw [List.drop_eq_nil_of_le (by omega)]; simp [hxL]
theorem ref01_Hex_eq : ref01_Hex.f xs = some (bytesL (hxL xs)) := by
  unfold ref01_Hex.f
  rw [show (0 : Int) = ((0 : Nat) : Int) from rfl, ref01_Hex_L0 hb hl _ 0 [] (by omega) (by omega) rfl]; rfl
theorem wire_Hex_eq : wire_Hex.f xs = some (bytesL (hxL xs)) := by
  unfold wire_Hex.f
  rw [show (0 : Int) = ((0 : Nat) : Int) from rfl, wire_Hex_L0 hb hl _ 0 [] (by omega) (by omega) rfl]; rfl
end
/-- Bytes as digits, '-' where there are none. -/
def dgL (xs : List Int) : List UInt8 := if xs.length = 0 then [45] else bytesL (hxL xs)
theorem dgL_len (xs : List Int) : (dgL xs).length ≤ 2 * xs.length + 1 := by
  unfold dgL; split
  · simp
  · unfold bytesL; rw [List.length_map, hxL_len]; omega
theorem digits_eq {xs : List Int} (hb : IsB xs) (hl : xs.length ≤ 100000000000) : script_digits.f xs = some (dgL xs) := by
  unfold script_digits.f dgL
  by_cases h : xs.length = 0
  · rw [if_pos h]; simp [h]
  · rw [if_neg h, ff (by simpa using h), wire_Hex_eq hb hl]; rfl
theorem Digits_eq {xs : List Int} (hb : IsB xs) (hl : xs.length ≤ 100000000000) : ref31_Digits.f xs = some (dgL xs) := by
  unfold ref31_Digits.f dgL
  by_cases h : xs.length = 0
  · rw [if_pos h]; simp [h]
  · rw [if_neg h, ff (by simpa using h), ref01_Hex_eq hb hl]; rfl
/-! ### what is much -/
section
variable {a : Reply}
theorem Big_L0 : ∀ (k i : Nat) (s : Int), 11 - i < k → i ≤ a.parts.length → i ≤ 11 → 0 ≤ s → s ≤ 20001 * i → ∃ r, ref20_Big.L0 a k s (i : Int) = some r ∧ s ≤ r ∧ r ≤ 20001 * 11 ∧ ∀ j, i ≤ j → j < a.parts.length → j ≤ 10 → ((a.parts.getD j []).length : Int) ≤ 20000 ∨ 20000 < r
  | 0, i, s, h, _, _, _, _ => by omega
  | k + 1, i, s, h, hi, h11, hs, hs2 => by
    rw [ref20_Big.L0]
    by_cases c : i < a.parts.length ∧ i ≤ 10
    · have c1 : (i : Int) < (a.parts.length : Int) := by omega
      have c2 : (i : Int) ≤ 10 := by omega
      simp only [nm, c1, c2, decide_true, if_true, Option.bind_some, Int.toNat_natCast]
      obtain ⟨t, ht⟩ : ∃ t : Int, t = if 20001 < ((a.parts.getD i []).length : Int) then 20001 else ((a.parts.getD i []).length : Int) := ⟨_, rfl⟩
      have ht2 : 0 ≤ t ∧ t ≤ 20001 ∧ (((a.parts.getD i []).length : Int) ≤ 20000 ∨ 20001 ≤ t) := by
        rw [ht]; split <;> omega
      rw [← ht, reqT (show (0 : Int) ≤ (i : Int) by omega), reqT trivial, wnext (by omega), show IntKind.i64.wrap (s + t) = s + t by rw [IntKind.wrap_i64]; omega]
      obtain ⟨r, h1, h2, h3, h4⟩ := Big_L0 k (i + 1) (s + t) (by omega) (by omega) (by omega) (by omega) (by omega)
      refine ⟨r, h1, by omega, h3, fun j hj hj2 hj3 => ?_⟩
      by_cases e : j = i
      · subst e; omega
      · exact h4 j (by omega) hj2 hj3
    · refine ⟨s, ?_, by omega, by omega, fun j hj hj2 hj3 => by omega⟩
      simp only [nm]
      by_cases c1 : (i : Int) < (a.parts.length : Int)
      · have c2 : ¬ (i : Int) ≤ 10 := by omega
        simp only [c1, c2, decide_true, decide_false, if_true, Option.bind_some, Bool.false_eq_true, if_false]
      · simp only [c1, decide_false, Option.bind_some, Bool.false_eq_true, if_false]
theorem Big_eq : ref20_Big.f a = some true ∨ (ref20_Big.f a = some false ∧ a.parts.length ≤ 10 ∧ ∀ p ∈ a.parts, p.length ≤ 20000) := by
  unfold ref20_Big.f
  obtain ⟨r, h1, h2, h3, h4⟩ := Big_L0 (a := a) ((10 : Int).toNat + 2) 0 0 (by decide) (by omega) (by omega) (by omega) (by omega)
  rw [show ((0 : Nat) : Int) = 0 from rfl] at h1
  rw [h1, Option.bind_some]
  by_cases c : (10 : Int) < (a.parts.length : Int)
  · left; simp only [c, decide_true, if_true]; rfl
  · simp only [c, decide_false, Bool.false_eq_true, if_false, Option.bind_some]
    by_cases c2 : 20000 < r
    · left; simp only [c2, decide_true]
    · right
      refine ⟨by simp only [c2, decide_false], by omega, fun p hp => ?_⟩
      obtain ⟨j, hj, rfl⟩ := List.getElem_of_mem hp
      have := h4 j (by omega) hj (by omega)
      rw [List.getD_eq_getElem?_getD, List.getElem?_eq_getElem hj] at this
      simp only [Option.getD_some] at this
      omega
end
/-! ### an answer's text -/
theorem itoa_len64 {n : Int} (h0 : -9223372036854775808 ≤ n) (h1 : n < 18446744073709551616) : (Lib.itoa n).length ≤ 21 := by
  by_cases hneg : n ≤ 9223372036854775807
  · exact Lib.itoa_length_le n h0 hneg
  · obtain ⟨u, rfl⟩ : ∃ u : Nat, n = u := ⟨n.toNat, by omega⟩
    rw [Lib.itoa_nonneg, Lib.decDigits_length]
    have := Lib.nDigits_le20 u (by omega)
    omega
structure Reply.Wf (a : Reply) : Prop where
  num : 0 ≤ a.num ∧ a.num < 18446744073709551616
  code : -9223372036854775808 ≤ a.code ∧ a.code ≤ 9223372036854775807
  handle : 0 ≤ a.handle ∧ a.handle < 4294967296
  parts : ∀ p ∈ a.parts, IsB p
section
variable {a : Reply} (hw : a.Wf) (h10 : a.parts.length ≤ 10) (hp : ∀ p ∈ a.parts, p.length ≤ 20000)
include hw h10 hp
theorem Reply_L0 : ∀ (k i : Nat) (y : List (List UInt8)), a.parts.length - i < k → i ≤ a.parts.length → y.length = 3 + i → script_ReplyText.L0 a k y (i : Int) = some (y ++ (a.parts.drop i).map dgL)
  | 0, i, y, h, _, _ => by omega
  | k + 1, i, y, h, hi, hy => by
    rw [script_ReplyText.L0]
    by_cases c : i < a.parts.length
    · have c' : (i : Int) < (a.parts.length : Int) := by omega
      have hm := sgetD_mem (d := ([] : List Int)) c
      simp only [c', decide_true, if_true, nm, Int.toNat_natCast]
      rw [reqT (show (0 : Int) ≤ (i : Int) by omega), reqT trivial, digits_eq (hw.parts _ hm) (by have := hp _ hm; omega), Option.bind_some, reqT (by simp; omega), wnext (by omega)]
      rw [Reply_L0 k (i + 1) _ (by omega) (by omega) (by simp; omega), sdrop (d := ([] : List Int)) c]
      simp
    · have c' : ¬ (i : Int) < (a.parts.length : Int) := by omega
      simp only [nm, c', decide_false, Bool.false_eq_true, if_false]
      rw [List.drop_eq_nil_of_le (by omega)]; simp
theorem ref_Reply_L0 : ∀ (k i : Nat) (y : List UInt8), a.parts.length - i < k → i ≤ a.parts.length → y.length ≤ 100 + 50000 * i → ref31_ReplyText.L0 a k y (i : Int) = some (y ++ Lib.joinTail [32] ((a.parts.drop i).map dgL))
  | 0, i, y, h, _, _ => by omega
  | k + 1, i, y, h, hi, hy => by
    rw [ref31_ReplyText.L0]
    by_cases c : i < a.parts.length
    · have c' : (i : Int) < (a.parts.length : Int) := by omega
      have hm := sgetD_mem (d := ([] : List Int)) c
      have hd := dgL_len (a.parts.getD i [])
      have hpl := hp _ hm
      simp only [c', decide_true, if_true, nm, Int.toNat_natCast]
      rw [reqT (by simp only [List.length_append, List.length_cons, List.length_nil]; omega), reqT (show (0 : Int) ≤ (i : Int) by omega), reqT trivial, Digits_eq (hw.parts _ hm) (by omega), Option.bind_some, reqT (by simp only [List.length_append, List.length_cons, List.length_nil]; omega), wnext (by omega)]
      rw [ref_Reply_L0 k (i + 1) _ (by omega) (by omega) (by simp only [List.length_append, List.length_cons, List.length_nil]; omega), sdrop (d := ([] : List Int)) c]
      simp [Lib.joinTail]
    · have c' : ¬ (i : Int) < (a.parts.length : Int) := by omega
      simp only [nm, c', decide_false, Bool.false_eq_true, if_false]
      rw [List.drop_eq_nil_of_le (by omega)]; simp [Lib.joinTail]
omit hw h10 hp in
theorem tail_len : ∀ ps : List (List Int), (∀ p ∈ ps, p.length ≤ 20000) → (Lib.joinTail [32] (ps.map dgL)).length ≤ 50000 * ps.length
  | [], _ => by simp [Lib.joinTail]
  | p :: r, h => by
    have h1 := tail_len r fun q hq => h q (List.mem_cons_of_mem _ hq)
    have h2 := dgL_len p
    have h3 := h p List.mem_cons_self
    show (([32] ++ dgL p) ++ Lib.joinTail [32] (r.map dgL)).length ≤ _
    rw [List.length_append, List.length_append, List.length_cons]
    simp only [List.length_cons, List.length_nil]
    omega
theorem ReplyText_eq : ∃ t, script_ReplyText.f a = some t ∧ ref31_ReplyText.f a = some t := by
  obtain ⟨n1, n2⟩ := hw.num
  obtain ⟨c1, c2⟩ := hw.code
  obtain ⟨g1, g2⟩ := hw.handle
  have hh : IntKind.i64.wrap a.handle = a.handle := by rw [IntKind.wrap_i64]; omega
  have l1 := itoa_len64 (n := a.num) (by omega) n2
  have l2 := itoa_len64 (n := a.code) c1 (by omega)
  have l3 := itoa_len64 (n := a.handle) (by omega) (by omega)
  refine ⟨Lib.itoa a.num ++ [32] ++ Lib.itoa a.code ++ [32] ++ Lib.itoa a.handle ++ Lib.joinTail [32] (a.parts.map dgL), ?_, ?_⟩
  · unfold script_ReplyText.f
    rw [hh]
    simp only [nm]
    rw [reqT n1, reqT n2, reqT c1, reqT c2, reqT (by omega), reqT (by omega)]
    rw [show (0 : Int) = ((0 : Nat) : Int) from rfl, Reply_L0 hw h10 hp _ 0 _ (by omega) (by omega) rfl, Option.bind_some, List.drop_zero]
    have e : joinL ([Lib.itoa a.num, Lib.itoa a.code, Lib.itoa a.handle] ++ a.parts.map dgL) [32] = Lib.itoa a.num ++ [32] ++ Lib.itoa a.code ++ [32] ++ Lib.itoa a.handle ++ Lib.joinTail [32] (a.parts.map dgL) := by
      unfold joinL
      show Lib.join (Lib.itoa a.num :: Lib.itoa a.code :: Lib.itoa a.handle :: a.parts.map dgL) [32] = _
      rw [Lib.join_cons]
      simp [Lib.joinTail]
    rw [e]
    have hl := tail_len a.parts hp
    rw [reqT (by simp; omega), reqT (by simp only [List.length_append, List.length_cons, List.length_nil]; omega)]
  · unfold ref31_ReplyText.f
    rw [hh]
    simp only [nm]
    rw [reqT n1, reqT n2, reqT (by simp; omega), reqT c1, reqT c2, reqT (by simp; omega), reqT (by simp; omega), reqT (by omega), reqT (by omega), reqT (by simp; omega)]
    rw [show (0 : Int) = ((0 : Nat) : Int) from rfl, ref_Reply_L0 hw h10 hp _ 0 _ (by omega) (by omega) (by simp; omega), Option.bind_some, List.drop_zero]
end
end Go.Proofs.YthldgjbmjgjogaaGreatDoor
