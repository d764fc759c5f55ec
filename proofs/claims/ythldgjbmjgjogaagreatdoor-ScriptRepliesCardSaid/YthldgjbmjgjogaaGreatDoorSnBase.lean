import Derived.Test.YthldgjbmjgjogaaGreatDoorHw28
import Derived.Test.YthldgjbmjgjogaaGreatDoorChecked
import Derived.Test.YthldgjbmjgjogaaGreatDoorSnFu
namespace Go.Proofs.YthldgjbmjgjogaaGreatDoor
open Go Go.HW Go.RowKit
set_option linter.unusedVariables false
set_option linter.unusedSimpArgs false

/-! ### keys, commands, acts, answers -/
structure Cmd where
  num : Int
  kind : Int
  handle : Int
  other : Int
  typ : Int
  attr : Int
  key : List Int
  data : List Int
structure Act where
  kind : Int
  client : Int
  n : Int
  at_ : Int
  byt : Int
  tick : Int
  first : List Int
  draw : List Int
  cmd : Cmd
  bytes : List Int
  picks : List Int
structure Reply where
  num : Int
  code : Int
  handle : Int
  parts : List (List Int)
abbrev Reply.ce (r : Reply) (p : Value) : Array Value := #[.int .u64 r.num, .int .i64 r.code, .int .u32 r.handle, p]
abbrev Cmd.ce (c : Cmd) (d : Value) : Array Value := #[.int .u64 c.num, .int .i64 c.kind, .int .u32 c.handle, .int .u32 c.other, .int .i64 c.typ, .int .i64 c.attr, .int .u8 (c.key.getD 0 0), .int .u8 (c.key.getD 1 0), .int .u8 (c.key.getD 2 0), .int .u8 (c.key.getD 3 0), .int .u8 (c.key.getD 4 0), .int .u8 (c.key.getD 5 0), .int .u8 (c.key.getD 6 0), .int .u8 (c.key.getD 7 0), .int .u8 (c.key.getD 8 0), .int .u8 (c.key.getD 9 0), .int .u8 (c.key.getD 10 0), .int .u8 (c.key.getD 11 0), .int .u8 (c.key.getD 12 0), .int .u8 (c.key.getD 13 0), .int .u8 (c.key.getD 14 0), .int .u8 (c.key.getD 15 0), .int .u8 (c.key.getD 16 0), .int .u8 (c.key.getD 17 0), .int .u8 (c.key.getD 18 0), .int .u8 (c.key.getD 19 0), .int .u8 (c.key.getD 20 0), .int .u8 (c.key.getD 21 0), .int .u8 (c.key.getD 22 0), .int .u8 (c.key.getD 23 0), .int .u8 (c.key.getD 24 0), .int .u8 (c.key.getD 25 0), .int .u8 (c.key.getD 26 0), .int .u8 (c.key.getD 27 0), .int .u8 (c.key.getD 28 0), .int .u8 (c.key.getD 29 0), .int .u8 (c.key.getD 30 0), .int .u8 (c.key.getD 31 0), d]
abbrev Act.ce (a : Act) (d y p : Value) : Array Value := #[.int .i64 a.kind, .int .i64 a.client, .int .i64 a.n, .int .i64 a.at_, .int .u8 a.byt, .int .u64 a.tick, .int .u8 (a.first.getD 0 0), .int .u8 (a.first.getD 1 0), .int .u8 (a.first.getD 2 0), .int .u8 (a.first.getD 3 0), .int .u8 (a.first.getD 4 0), .int .u8 (a.first.getD 5 0), .int .u8 (a.first.getD 6 0), .int .u8 (a.first.getD 7 0), .int .u8 (a.first.getD 8 0), .int .u8 (a.first.getD 9 0), .int .u8 (a.first.getD 10 0), .int .u8 (a.first.getD 11 0), .int .u8 (a.first.getD 12 0), .int .u8 (a.first.getD 13 0), .int .u8 (a.first.getD 14 0), .int .u8 (a.first.getD 15 0), .int .u8 (a.first.getD 16 0), .int .u8 (a.first.getD 17 0), .int .u8 (a.first.getD 18 0), .int .u8 (a.first.getD 19 0), .int .u8 (a.first.getD 20 0), .int .u8 (a.first.getD 21 0), .int .u8 (a.first.getD 22 0), .int .u8 (a.first.getD 23 0), .int .u8 (a.first.getD 24 0), .int .u8 (a.first.getD 25 0), .int .u8 (a.first.getD 26 0), .int .u8 (a.first.getD 27 0), .int .u8 (a.first.getD 28 0), .int .u8 (a.first.getD 29 0), .int .u8 (a.first.getD 30 0), .int .u8 (a.first.getD 31 0), .int .u8 (a.draw.getD 0 0), .int .u8 (a.draw.getD 1 0), .int .u8 (a.draw.getD 2 0), .int .u8 (a.draw.getD 3 0), .int .u8 (a.draw.getD 4 0), .int .u8 (a.draw.getD 5 0), .int .u8 (a.draw.getD 6 0), .int .u8 (a.draw.getD 7 0), .int .u8 (a.draw.getD 8 0), .int .u8 (a.draw.getD 9 0), .int .u8 (a.draw.getD 10 0), .int .u8 (a.draw.getD 11 0), .int .u8 (a.draw.getD 12 0), .int .u8 (a.draw.getD 13 0), .int .u8 (a.draw.getD 14 0), .int .u8 (a.draw.getD 15 0), .int .u8 (a.draw.getD 16 0), .int .u8 (a.draw.getD 17 0), .int .u8 (a.draw.getD 18 0), .int .u8 (a.draw.getD 19 0), .int .u8 (a.draw.getD 20 0), .int .u8 (a.draw.getD 21 0), .int .u8 (a.draw.getD 22 0), .int .u8 (a.draw.getD 23 0), .int .u8 (a.draw.getD 24 0), .int .u8 (a.draw.getD 25 0), .int .u8 (a.draw.getD 26 0), .int .u8 (a.draw.getD 27 0), .int .u8 (a.draw.getD 28 0), .int .u8 (a.draw.getD 29 0), .int .u8 (a.draw.getD 30 0), .int .u8 (a.draw.getD 31 0), .int .u64 a.cmd.num, .int .i64 a.cmd.kind, .int .u32 a.cmd.handle, .int .u32 a.cmd.other, .int .i64 a.cmd.typ, .int .i64 a.cmd.attr, .int .u8 (a.cmd.key.getD 0 0), .int .u8 (a.cmd.key.getD 1 0), .int .u8 (a.cmd.key.getD 2 0), .int .u8 (a.cmd.key.getD 3 0), .int .u8 (a.cmd.key.getD 4 0), .int .u8 (a.cmd.key.getD 5 0), .int .u8 (a.cmd.key.getD 6 0), .int .u8 (a.cmd.key.getD 7 0), .int .u8 (a.cmd.key.getD 8 0), .int .u8 (a.cmd.key.getD 9 0), .int .u8 (a.cmd.key.getD 10 0), .int .u8 (a.cmd.key.getD 11 0), .int .u8 (a.cmd.key.getD 12 0), .int .u8 (a.cmd.key.getD 13 0), .int .u8 (a.cmd.key.getD 14 0), .int .u8 (a.cmd.key.getD 15 0), .int .u8 (a.cmd.key.getD 16 0), .int .u8 (a.cmd.key.getD 17 0), .int .u8 (a.cmd.key.getD 18 0), .int .u8 (a.cmd.key.getD 19 0), .int .u8 (a.cmd.key.getD 20 0), .int .u8 (a.cmd.key.getD 21 0), .int .u8 (a.cmd.key.getD 22 0), .int .u8 (a.cmd.key.getD 23 0), .int .u8 (a.cmd.key.getD 24 0), .int .u8 (a.cmd.key.getD 25 0), .int .u8 (a.cmd.key.getD 26 0), .int .u8 (a.cmd.key.getD 27 0), .int .u8 (a.cmd.key.getD 28 0), .int .u8 (a.cmd.key.getD 29 0), .int .u8 (a.cmd.key.getD 30 0), .int .u8 (a.cmd.key.getD 31 0), d, y, p]

abbrev zC : Cmd := Cmd.mk 0 0 0 0 0 0 [] []
set_option maxRecDepth 20000 in
theorem act_one {a : Act} {g1 g2 g3 : Value} (h1 : OneCell g1) (h2 : OneCell g2) (h3 : OneCell g3) : ∀ v ∈ (Act.ce a g1 g2 g3).toList, OneCell v := by
  show ∀ v ∈ (_ :: _ : List Value), _
  exact (one_cons trivial (one_cons trivial (one_cons trivial (one_cons trivial (one_cons trivial (one_cons trivial (one_cons trivial (one_cons trivial (one_cons trivial (one_cons trivial (one_cons trivial (one_cons trivial (one_cons trivial (one_cons trivial (one_cons trivial (one_cons trivial (one_cons trivial (one_cons trivial (one_cons trivial (one_cons trivial (one_cons trivial (one_cons trivial (one_cons trivial (one_cons trivial (one_cons trivial (one_cons trivial (one_cons trivial (one_cons trivial (one_cons trivial (one_cons trivial (one_cons trivial (one_cons trivial (one_cons trivial (one_cons trivial (one_cons trivial (one_cons trivial (one_cons trivial (one_cons trivial (one_cons trivial (one_cons trivial (one_cons trivial (one_cons trivial (one_cons trivial (one_cons trivial (one_cons trivial (one_cons trivial (one_cons trivial (one_cons trivial (one_cons trivial (one_cons trivial (one_cons trivial (one_cons trivial (one_cons trivial (one_cons trivial (one_cons trivial (one_cons trivial (one_cons trivial (one_cons trivial (one_cons trivial (one_cons trivial (one_cons trivial (one_cons trivial (one_cons trivial (one_cons trivial (one_cons trivial (one_cons trivial (one_cons trivial (one_cons trivial (one_cons trivial (one_cons trivial (one_cons trivial (one_cons trivial (one_cons trivial (one_cons trivial (one_cons trivial (one_cons trivial (one_cons trivial (one_cons trivial (one_cons trivial (one_cons trivial (one_cons trivial (one_cons trivial (one_cons trivial (one_cons trivial (one_cons trivial (one_cons trivial (one_cons trivial (one_cons trivial (one_cons trivial (one_cons trivial (one_cons trivial (one_cons trivial (one_cons trivial (one_cons trivial (one_cons trivial (one_cons trivial (one_cons trivial (one_cons trivial (one_cons trivial (one_cons trivial (one_cons trivial (one_cons trivial (one_cons trivial (one_cons trivial (one_cons trivial (one_cons trivial (one_cons trivial (one_cons trivial (one_cons h1 (one_cons h2 (one_cons h3 one_nil)))))))))))))))))))))))))))))))))))))))))))))))))))))))))))))))))))))))))))))))))))))))))))))))))))))))))))))))
theorem cmd_one {a : Cmd} {g : Value} (h : OneCell g) : ∀ v ∈ (Cmd.ce a g).toList, OneCell v := by
  show ∀ v ∈ (_ :: _ : List Value), _
  exact (one_cons trivial (one_cons trivial (one_cons trivial (one_cons trivial (one_cons trivial (one_cons trivial (one_cons trivial (one_cons trivial (one_cons trivial (one_cons trivial (one_cons trivial (one_cons trivial (one_cons trivial (one_cons trivial (one_cons trivial (one_cons trivial (one_cons trivial (one_cons trivial (one_cons trivial (one_cons trivial (one_cons trivial (one_cons trivial (one_cons trivial (one_cons trivial (one_cons trivial (one_cons trivial (one_cons trivial (one_cons trivial (one_cons trivial (one_cons trivial (one_cons trivial (one_cons trivial (one_cons trivial (one_cons trivial (one_cons trivial (one_cons trivial (one_cons trivial (one_cons trivial (one_cons h one_nil)))))))))))))))))))))))))))))))))))))))

/-! ### the tables -/
def tFind {α : Type} (k : Int) : List (Int × α) → Option α
  | [] => none
  | (j, x) :: r => if k == j then some x else tFind k r
def sfT : List (Int × List UInt8 × List UInt8) := [(1, [104, 101, 108, 108, 111], [99, 102]), (2, [115, 101, 110, 100], [99, 109]), (3, [114, 101, 115, 101, 110, 100], [99]), (4, [103, 105, 118, 101], [110, 100]), (5, [116, 97, 107, 101], [99, 110]), (6, [102, 111, 114, 103, 101], [121, 100]), (7, [116, 117, 114, 110], [110, 97, 98, 100]), (8, [116, 105, 99, 107], [116]), (9, [102, 117, 115, 101], [110]), (10, [99, 114, 97, 115, 104], [112]), (11, [117, 112], ([] : List UInt8)), (12, [101, 100, 105, 116], [110, 97, 98]), (13, [115, 97, 118, 101], ([] : List UInt8)), (14, [98, 97, 99, 107], [110])]
def sfName (k : Int) : List UInt8 := ((tFind k sfT).map Prod.fst).getD []
def sfParts (k : Int) : List UInt8 := ((tFind k sfT).map Prod.snd).getD []
def sfIs (k : Int) : Bool := (tFind k sfT).isSome
def sfV (x : List UInt8 × List UInt8) : Value := .agg #[str x.1, str x.2]
def sfL : List (Int × Value) := [(1, .agg #[str [104, 101, 108, 108, 111], str [99, 102]]), (2, .agg #[str [115, 101, 110, 100], str [99, 109]]), (3, .agg #[str [114, 101, 115, 101, 110, 100], str [99]]), (4, .agg #[str [103, 105, 118, 101], str [110, 100]]), (5, .agg #[str [116, 97, 107, 101], str [99, 110]]), (6, .agg #[str [102, 111, 114, 103, 101], str [121, 100]]), (7, .agg #[str [116, 117, 114, 110], str [110, 97, 98, 100]]), (8, .agg #[str [116, 105, 99, 107], str [116]]), (9, .agg #[str [102, 117, 115, 101], str [110]]), (10, .agg #[str [99, 114, 97, 115, 104], str [112]]), (11, .agg #[str [117, 112], str ([] : List UInt8)]), (12, .agg #[str [101, 100, 105, 116], str [110, 97, 98]]), (13, .agg #[str [115, 97, 118, 101], str ([] : List UInt8)]), (14, .agg #[str [98, 97, 99, 107], str [110]])]
def SFormsO : Obj := mobj .i64 sfL
def fnT : List (Int × List UInt8) := [(1, [116, 97]), (2, [116, 97, 107]), (3, [104]), (4, [104]), (5, [104, 100]), (6, [104, 111]), (7, [104, 97, 100]), (8, [104, 116, 97, 100]), (9, [104]), (10, [104, 97]), (11, [104]), (12, [104, 100]), (13, [104, 100])]
def fnS (k : Int) : List UInt8 := (tFind k fnT).getD []
def fnV (x : List UInt8) : Value := .agg #[str x]
def fnL : List (Int × Value) := [(1, .agg #[str [116, 97]]), (2, .agg #[str [116, 97, 107]]), (3, .agg #[str [104]]), (4, .agg #[str [104]]), (5, .agg #[str [104, 100]]), (6, .agg #[str [104, 111]]), (7, .agg #[str [104, 97, 100]]), (8, .agg #[str [104, 116, 97, 100]]), (9, .agg #[str [104]]), (10, .agg #[str [104, 97]]), (11, .agg #[str [104]]), (12, .agg #[str [104, 100]]), (13, .agg #[str [104, 100]])]
def FNamesO : Obj := mobj .i64 fnL
theorem t_find {α : Type} {V : α → Value} (k : Int) : ∀ l : List (Int × α), mfind k (l.map fun p => (p.1, V p.2)) = (tFind k l).map V
  | [] => rfl
  | (j, x) :: r => by
    simp only [List.map_cons, mfind, tFind]
    by_cases h : (k == j) = true
    · simp only [if_pos h]; rfl
    · simp only [if_neg h]; exact t_find k r
theorem sf_val (k : Int) : (mfind k sfL).getD (.agg #[str ([] : List UInt8), str ([] : List UInt8)]) = .agg #[str (sfName k), str (sfParts k)] := by
  have h : mfind k sfL = (tFind k sfT).map sfV := t_find (V := sfV) k sfT
  rw [h]
  unfold sfName sfParts
  cases tFind k sfT <;> rfl
theorem sf_is (k : Int) : (mfind k sfL).isSome = sfIs k := by
  have h : mfind k sfL = (tFind k sfT).map sfV := t_find (V := sfV) k sfT
  rw [h]
  unfold sfIs
  cases tFind k sfT <;> rfl
theorem fn_val (k : Int) : (mfind k fnL).getD (.agg #[str ([] : List UInt8)]) = .agg #[str (fnS k)] := by
  have h : mfind k fnL = (tFind k fnT).map fnV := t_find (V := fnV) k fnT
  rw [h]
  unfold fnS
  cases tFind k fnT <;> rfl
/-- The tables stay as they are laid. -/
def Glob (M : Mem) : Prop := ∀ w, Imm M w → Lib.TabIs Tryz.prog w "internal/strconv.uint64pow10" .u64 Lib.pow10Tab
theorem Glob.mono {M M' : Mem} (h : Glob M) (hx : Ext M M') : Glob M' := fun w hi => h w fun b o e => hi b o (hx b o e)
theorem itoa_ok {M : Mem} (hG : Glob M) (n : Int) (h0 : -9223372036854775808 ≤ n) (h1 : n ≤ 9223372036854775807) (w : World) (hM : Ext M (heapOf w)) : Calls Tryz.prog 63 #[.int .i64 n] w fun e w' => e = .returned (str (Lib.itoa n)) ∧ Below w.heap.size w w' := by
  refine (Tryz.strconv_Itoa n h0 h1 w (hG w hM)).mono ?_
  rintro e w' ⟨he, k, os, rfl⟩
  refine ⟨he, ?_⟩
  exact ⟨rfl, rfl, rfl, by show w.heap.size ≤ (w.heap ++ os).size; simp, fun i hi => by show (w.heap ++ os)[i]? = _; rw [Array.getElem?_append_left hi]⟩
/-! ### strings.Join -/
def joinL (xs : List (List UInt8)) (sep : List UInt8) : List UInt8 := Lib.join xs sep
theorem join_ok {M : Mem} {w0 : World} {I : Nat → Option Obj} {H : Heap} {v : Value} {cur : Array Value} {e i : Nat} {xs : List (List UInt8)} (sep : List UInt8) (h : OwnS Sh.str M v cur xs) {w : World} (hc : Cls w0 I H w) (hH : H[i]? = some (v.ownBlock, .cells cur e (0, 0)))
    (hn : xs.length ≤ 140737488355328) (hl : (joinL xs sep).length ≤ 140737488355328) : Calls Tryz.prog 69 #[v, str sep] w fun e w' => e = .returned (str (joinL xs sep)) ∧ Below w.heap.size w w' := by
  obtain ⟨cs, ⟨h0, h1⟩, h2⟩ := h
  rcases h1 with ⟨rfl, hz⟩ | ⟨g, cap, rfl, k1, k2, k3, k4⟩
  · have hx : xs = [] := List.eq_nil_of_length_eq_zero hz
    subst hx
    exact (Tryz.strings_Join_none none 0 ⟨sep.toArray⟩ w).mono fun e w' ⟨he, hw⟩ => ⟨he, by rw [hw]; exact Below.refl _ _⟩
  · have hb := hc.own g _ (List.mem_of_getElem? hH)
    have e1 : (xs.map fun x => (⟨x.toArray⟩ : ByteArray)).length = xs.length := by simp
    have e2 : ((xs.map fun x => (⟨x.toArray⟩ : ByteArray)).map (·.data.toList)) = xs := by
      rw [List.map_map]
      exact List.map_id'' (fun x => rfl) xs
    have hcells : ∀ (j : Nat) x, (xs.map fun x => (⟨x.toArray⟩ : ByteArray))[j]? = some x → w.cell? ⟨g, 0 + j, none⟩ = some (.string x) := fun j x hx => by
      rw [List.getElem?_map] at hx
      obtain ⟨y, hy, rfl⟩ := Option.map_eq_some_iff.1 hx
      have hr : chunk cs 1 j = [str y] := h2 j y hy
      have hq : (chunk cs 1 j)[0]? = some (str y) := by rw [hr]; rfl
      have hcs := chunk_get hq
      rw [Nat.mul_one, Nat.add_zero] at hcs
      rw [cell_of hb, Nat.zero_add]
      rw [← k4] at hcs
      have hjn : j < xs.length * Sh.str.n := by
        rcases Nat.lt_or_ge j (xs.length * Sh.str.n) with h | h
        · exact h
        · rw [List.getElem?_eq_none (by rw [List.length_take]; omega)] at hcs; cases hcs
      rw [List.getElem?_take_of_lt hjn] at hcs
      rw [Array.getElem?_toList] at hcs; exact hcs
    have key := Tryz.strings_Join g 0 cap (xs.map fun x => (⟨x.toArray⟩ : ByteArray)) ⟨sep.toArray⟩ w hcells (lt_of_get hb) (by rw [e1]; exact hn) (by rw [e1]; exact k1) (by rw [e2]; exact hl)
    rw [e1, e2] at key
    exact key


/-! ### strconv.FormatUint -/
theorem futoa_ok {M : Mem} (hG : Glob M) (n : Int) (h0 : 0 ≤ n) (h1 : n < 18446744073709551616) (w : World) (hM : Ext M (heapOf w)) : Calls Tryz.prog 67 #[.int .u64 n, .int .i64 10] w fun e w' => e = .returned (str (Lib.itoa n)) ∧ Below w.heap.size w w' := by
  obtain ⟨u, rfl⟩ : ∃ u : Nat, n = u := ⟨n.toNat, by omega⟩
  refine (Tryz.strconv_FormatUint_10 u (by omega) w (hG w hM)).mono ?_
  rintro e w' ⟨he, k, os, rfl⟩
  refine ⟨by rw [he, Lib.itoa_nonneg]; rfl, ?_⟩
  exact ⟨rfl, rfl, rfl, by show w.heap.size ≤ (w.heap ++ os).size; simp, fun i hi => by show (w.heap ++ os)[i]? = _; rw [Array.getElem?_append_left hi]⟩
end Go.Proofs.YthldgjbmjgjogaaGreatDoor
