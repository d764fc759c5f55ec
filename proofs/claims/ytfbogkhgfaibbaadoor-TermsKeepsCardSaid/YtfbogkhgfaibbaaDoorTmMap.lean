import Derived.Test.YtfbogkhgfaibbaaDoorTmLib
import Derived.Test.YtfbogkhgfaibbaaDoorHw24
namespace Go.Proofs.YtfbogkhgfaibbaaDoor
open Go Go.HW Go.RowKit
set_option linter.unusedVariables false

/-! ### the kinds' names, and how many parts they have -/
def fmT : List (Int × List UInt8 × Int) := [(1, [100], 0), (2, [115], 0), (3, [112, 117, 98, 108, 105, 99], 1), (4, [115, 101, 97, 108], 2), (5, [115, 105, 103, 110], 2), (6, [109, 97, 99], 2), (7, [112, 97, 105, 114], 2), (8, [115, 104, 97, 114, 101, 100], 2), (9, [104, 97, 115, 104], 1)]
def fmFind (k : Int) : List (Int × List UInt8 × Int) → Option (List UInt8 × Int)
  | [] => none
  | (j, x) :: r => if k == j then some x else fmFind k r
def fmName (k : Int) : List UInt8 := ((fmFind k fmT).map Prod.fst).getD []
def fmArgs (k : Int) : Int := ((fmFind k fmT).map Prod.snd).getD 0
def fmIs (k : Int) : Bool := (fmFind k fmT).isSome
def fmV (x : List UInt8 × Int) : Value := .agg #[str x.1, .int .i64 x.2]
def formsL : List (Int × Value) := [(1, .agg #[str [100], .int .i64 0]), (2, .agg #[str [115], .int .i64 0]), (3, .agg #[str [112, 117, 98, 108, 105, 99], .int .i64 1]), (4, .agg #[str [115, 101, 97, 108], .int .i64 2]), (5, .agg #[str [115, 105, 103, 110], .int .i64 2]), (6, .agg #[str [109, 97, 99], .int .i64 2]), (7, .agg #[str [112, 97, 105, 114], .int .i64 2]), (8, .agg #[str [115, 104, 97, 114, 101, 100], .int .i64 2]), (9, .agg #[str [104, 97, 115, 104], .int .i64 1])]
def FormsO : Obj := mobj .i64 formsL
theorem fm_find (k : Int) : ∀ l : List (Int × List UInt8 × Int), mfind k (l.map fun p => (p.1, fmV p.2)) = (fmFind k l).map fmV
  | [] => rfl
  | (j, x) :: r => by
    simp only [List.map_cons, mfind, fmFind]
    by_cases h : (k == j) = true
    · simp only [if_pos h]; rfl
    · simp only [if_neg h]; exact fm_find k r
theorem fm_val (k : Int) : (mfind k formsL).getD (.agg #[str ([] : List UInt8), .int .i64 0]) = .agg #[str (fmName k), .int .i64 (fmArgs k)] := by
  have h : mfind k formsL = (fmFind k fmT).map fmV := fm_find k fmT
  rw [h]
  unfold fmName fmArgs
  cases fmFind k fmT <;> rfl
theorem fm_is (k : Int) : (mfind k formsL).isSome = fmIs k := by
  have h : mfind k formsL = (fmFind k fmT).map fmV := fm_find k fmT
  rw [h]
  unfold fmIs
  cases fmFind k fmT <;> rfl

/-! ### what is known, by texts -/
abbrev KM := List (List UInt8 × Tm)
def kgetT (K : KM) (s : List UInt8) : Tm := (kfind s K).getD Tm.dflt
def khas (K : KM) (s : List UInt8) : Bool := (kfind s K).isSome
theorem KMap.look {M : Mem} {b : Nat} {K : KM} (h : KMap ShTm M b K) (s : List UInt8) : ∃ (k : Value) (l : List (List UInt8 × Value)), RowS ShTm M k (Tree.kids (kgetT K s)) ∧ M b = some (kobj l) ∧
    (vfind s l).getD (.agg #[.int .i64 0, .int .i64 0, .slice none 0 0]) = .agg #[.int .i64 (Tm.kind (kgetT K s)), .int .i64 (Tm.num (kgetT K s)), k] ∧ (vfind s l).isSome = khas K s := by
  obtain ⟨o, K', h1, ⟨l, rfl, h2⟩, h3, h4⟩ := h
  have hp := kfind_perm h3 h4 s
  unfold kgetT khas
  rw [← hp]
  rcases h2.find s with ⟨e1, e2⟩ | ⟨cs, t, e1, e2, e3⟩
  · refine ⟨.slice none 0 0, l, ?_, h1, ?_, ?_⟩
    · rw [e2]; exact RowS.nil _ _
    · rw [e1, e2]; rfl
    · rw [e1, e2]; rfl
  · obtain ⟨k, rfl, hk⟩ := Tm.op e3
    refine ⟨k, l, by rw [e2]; exact hk, h1, ?_, ?_⟩
    · rw [e1, e2]; rfl
    · rw [e1, e2]; rfl

/-! ### strings.Join -/
def joinL (xs : List (List UInt8)) (sep : List UInt8) : List UInt8 := Lib.join xs sep
theorem join_ok {M : Mem} {w0 : World} {I : Nat → Option Obj} {H : Heap} {v : Value} {cur : Array Value} {e i : Nat} {xs : List (List UInt8)} (sep : List UInt8) (h : OwnS Sh.str M v cur xs) {w : World} (hc : Cls w0 I H w) (hH : H[i]? = some (v.ownBlock, .cells cur e (0, 0)))
    (hn : xs.length ≤ 140737488355328) (hl : (joinL xs sep).length ≤ 140737488355328) : Calls Tryd.prog 69 #[v, str sep] w fun e w' => e = .returned (str (joinL xs sep)) ∧ Below w.heap.size w w' := by
  obtain ⟨cs, ⟨h0, h1⟩, h2⟩ := h
  rcases h1 with ⟨rfl, hz⟩ | ⟨g, cap, rfl, k1, k2, k3, k4⟩
  · have hx : xs = [] := List.eq_nil_of_length_eq_zero hz
    subst hx
    exact (Tryd.strings_Join_none none 0 ⟨sep.toArray⟩ w).mono fun e w' ⟨he, hw⟩ => ⟨he, by rw [hw]; exact Below.refl _ _⟩
  · have hb := hc.own g _ (List.mem_of_getElem? hH)
    have e1 : (xs.map fun x => (⟨x.toArray⟩ : ByteArray)).length = xs.length := by simp
    have e2 : ((xs.map fun x => (⟨x.toArray⟩ : ByteArray)).map (·.data.toList)) = xs := by
      rw [List.map_map]
      exact List.map_id'' (fun x => rfl) xs
    have hcells : ∀ (j : Nat) x, (xs.map fun x => (⟨x.toArray⟩ : ByteArray))[j]? = some x → w.cell? ⟨g, 0 + j, none⟩ = some (.string x) := fun j x hx => by
      rw [List.getElem?_map] at hx
      obtain ⟨y, hy, rfl⟩ := Option.map_eq_some_iff.1 hx
      have hr : chunk cs 1 j = [str y] := h2 j y hy
      have hq : (chunk cs 1 j)[0]? = some (str y) := by rw [hr]; rfl
      have hcs := chunk_get hq
      rw [Nat.mul_one, Nat.add_zero] at hcs
      rw [cell_of hb, Nat.zero_add]
      rw [← k4] at hcs
      have hjn : j < xs.length * Sh.str.n := by
        rcases Nat.lt_or_ge j (xs.length * Sh.str.n) with h | h
        · exact h
        · rw [List.getElem?_eq_none (by rw [List.length_take]; omega)] at hcs; cases hcs
      rw [List.getElem?_take_of_lt hjn] at hcs
      rw [Array.getElem?_toList] at hcs; exact hcs
    have key := Tryd.strings_Join g 0 cap (xs.map fun x => (⟨x.toArray⟩ : ByteArray)) ⟨sep.toArray⟩ w hcells (lt_of_get hb) (by rw [e1]; exact hn) (by rw [e1]; exact k1) (by rw [e2]; exact hl)
    rw [e1, e2] at key
    exact key
end Go.Proofs.YtfbogkhgfaibbaaDoor
