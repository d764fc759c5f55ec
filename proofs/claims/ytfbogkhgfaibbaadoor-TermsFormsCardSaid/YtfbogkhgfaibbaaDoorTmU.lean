import Derived.Test.YtfbogkhgfaibbaaDoorTmLib
import Derived.Test.YtfbogkhgfaibbaaDoorHw24
import Derived.Lib.SmallJoins
import Derived.Test.YtfbogkhgfaibbaaDoorTmRow
import Derived.Stop.LaidErr
import Derived.Lib.ItoaNum
import Derived.Lib.ItoaLen
section
namespace Go.Proofs.YtfbogkhgfaibbaaDoor
open Go Go.HW Go.RowKit
set_option linter.unusedVariables false

/-! ### the kinds' names, and how many parts they have -/
def fmT : List (Int × List UInt8 × Int) := [(1, [100], 0), (2, [115], 0), (3, [112, 117, 98, 108, 105, 99], 1), (4, [115, 101, 97, 108], 2), (5, [115, 105, 103, 110], 2), (6, [109, 97, 99], 2), (7, [112, 97, 105, 114], 2), (8, [115, 104, 97, 114, 101, 100], 2), (9, [104, 97, 115, 104], 1)]
def fmFind (k : Int) : List (Int × List UInt8 × Int) → Option (List UInt8 × Int)
  | [] => none
  | (j, x) :: r => if k == j then some x else fmFind k r
def fmName (k : Int) : List UInt8 := ((fmFind k fmT).map Prod.fst).getD []
def fmArgs (k : Int) : Int := ((fmFind k fmT).map Prod.snd).getD 0
def fmIs (k : Int) : Bool := (fmFind k fmT).isSome
def fmV (x : List UInt8 × Int) : Value := .agg #[str x.1, .int .i64 x.2]
def formsL : List (Int × Value) := [(1, .agg #[str [100], .int .i64 0]), (2, .agg #[str [115], .int .i64 0]), (3, .agg #[str [112, 117, 98, 108, 105, 99], .int .i64 1]), (4, .agg #[str [115, 101, 97, 108], .int .i64 2]), (5, .agg #[str [115, 105, 103, 110], .int .i64 2]), (6, .agg #[str [109, 97, 99], .int .i64 2]), (7, .agg #[str [112, 97, 105, 114], .int .i64 2]), (8, .agg #[str [115, 104, 97, 114, 101, 100], .int .i64 2]), (9, .agg #[str [104, 97, 115, 104], .int .i64 1])]
def FormsO : Obj := mobj .i64 formsL
theorem fm_find (k : Int) : ∀ l : List (Int × List UInt8 × Int), mfind k (l.map fun p => (p.1, fmV p.2)) = (fmFind k l).map fmV
  | [] => rfl
  | (j, x) :: r => by
    simp only [List.map_cons, mfind, fmFind]
    by_cases h : (k == j) = true
    · simp only [if_pos h]; rfl
    · simp only [if_neg h]; exact fm_find k r
theorem fm_val (k : Int) : (mfind k formsL).getD (.agg #[str ([] : List UInt8), .int .i64 0]) = .agg #[str (fmName k), .int .i64 (fmArgs k)] := by
  have h : mfind k formsL = (fmFind k fmT).map fmV := fm_find k fmT
  rw [h]
  unfold fmName fmArgs
  cases fmFind k fmT <;> rfl
theorem fm_is (k : Int) : (mfind k formsL).isSome = fmIs k := by
  have h : mfind k formsL = (fmFind k fmT).map fmV := fm_find k fmT
  rw [h]
  unfold fmIs
  cases fmFind k fmT <;> rfl

/-! ### what is known, by texts -/
abbrev KM := List (List UInt8 × Tm)
def kgetT (K : KM) (s : List UInt8) : Tm := (kfind s K).getD Tm.dflt
def khas (K : KM) (s : List UInt8) : Bool := (kfind s K).isSome
theorem KMap.look {M : Mem} {b : Nat} {K : KM} (h : KMap ShTm M b K) (s : List UInt8) : ∃ (k : Value) (l : List (List UInt8 × Value)), RowS ShTm M k (Tree.kids (kgetT K s)) ∧ M b = some (kobj l) ∧
    (vfind s l).getD (.agg #[.int .i64 0, .int .i64 0, .slice none 0 0]) = .agg #[.int .i64 (Tm.kind (kgetT K s)), .int .i64 (Tm.num (kgetT K s)), k] ∧ (vfind s l).isSome = khas K s := by
  obtain ⟨o, K', h1, ⟨l, rfl, h2⟩, h3, h4⟩ := h
  have hp := kfind_perm h3 h4 s
  unfold kgetT khas
  rw [← hp]
  rcases h2.find s with ⟨e1, e2⟩ | ⟨cs, t, e1, e2, e3⟩
  · refine ⟨.slice none 0 0, l, ?_, h1, ?_, ?_⟩
    · rw [e2]; exact RowS.nil _ _
    · rw [e1, e2]; rfl
    · rw [e1, e2]; rfl
  · obtain ⟨k, rfl, hk⟩ := Tm.op e3
    refine ⟨k, l, by rw [e2]; exact hk, h1, ?_, ?_⟩
    · rw [e1, e2]; rfl
    · rw [e1, e2]; rfl

/-! ### strings.Join -/
def joinL (xs : List (List UInt8)) (sep : List UInt8) : List UInt8 := Lib.join xs sep
theorem join_ok {M : Mem} {w0 : World} {I : Nat → Option Obj} {H : Heap} {v : Value} {cur : Array Value} {e i : Nat} {xs : List (List UInt8)} (sep : List UInt8) (h : OwnS Sh.str M v cur xs) {w : World} (hc : Cls w0 I H w) (hH : H[i]? = some (v.ownBlock, .cells cur e (0, 0)))
    (hn : xs.length ≤ 140737488355328) (hl : (joinL xs sep).length ≤ 140737488355328) : Calls Tryd.prog 69 #[v, str sep] w fun e w' => e = .returned (str (joinL xs sep)) ∧ Below w.heap.size w w' := by
  obtain ⟨cs, ⟨h0, h1⟩, h2⟩ := h
  rcases h1 with ⟨rfl, hz⟩ | ⟨g, cap, rfl, k1, k2, k3, k4⟩
  · have hx : xs = [] := List.eq_nil_of_length_eq_zero hz
    subst hx
    exact (Tryd.strings_Join_none none 0 ⟨sep.toArray⟩ w).mono fun e w' ⟨he, hw⟩ => ⟨he, by rw [hw]; exact Below.refl _ _⟩
  · have hb := hc.own g _ (List.mem_of_getElem? hH)
    have e1 : (xs.map fun x => (⟨x.toArray⟩ : ByteArray)).length = xs.length := by simp
    have e2 : ((xs.map fun x => (⟨x.toArray⟩ : ByteArray)).map (·.data.toList)) = xs := by
      rw [List.map_map]
      exact List.map_id'' (fun x => rfl) xs
    have hcells : ∀ (j : Nat) x, (xs.map fun x => (⟨x.toArray⟩ : ByteArray))[j]? = some x → w.cell? ⟨g, 0 + j, none⟩ = some (.string x) := fun j x hx => by
      rw [List.getElem?_map] at hx
      obtain ⟨y, hy, rfl⟩ := Option.map_eq_some_iff.1 hx
      have hr : chunk cs 1 j = [str y] := h2 j y hy
      have hq : (chunk cs 1 j)[0]? = some (str y) := by rw [hr]; rfl
      have hcs := chunk_get hq
      rw [Nat.mul_one, Nat.add_zero] at hcs
      rw [cell_of hb, Nat.zero_add]
      rw [← k4] at hcs
      have hjn : j < xs.length * Sh.str.n := by
        rcases Nat.lt_or_ge j (xs.length * Sh.str.n) with h | h
        · exact h
        · rw [List.getElem?_eq_none (by rw [List.length_take]; omega)] at hcs; cases hcs
      rw [List.getElem?_take_of_lt hjn] at hcs
      rw [Array.getElem?_toList] at hcs; exact hcs
    have key := Tryd.strings_Join g 0 cap (xs.map fun x => (⟨x.toArray⟩ : ByteArray)) ⟨sep.toArray⟩ w hcells (lt_of_get hb) (by rw [e1]; exact hn) (by rw [e1]; exact k1) (by rw [e2]; exact hl)
    rw [e1, e2] at key
    exact key
end Go.Proofs.YtfbogkhgfaibbaaDoor
end

section
namespace Go.Proofs.YtfbogkhgfaibbaaDoor
open Go Go.HW Go.RowKit
set_option linter.unusedVariables false
set_option linter.unusedSimpArgs false

/-! ### going over the kinds' names -/
def fmL : List (Int × Int) := [(1, 0), (2, 0), (3, 1), (4, 2), (5, 2), (6, 2), (7, 2), (8, 2), (9, 1)]
def fmG : List (Value × Value) := fmL.map fun e => (.int .i64 e.1, .agg #[str (fmName e.1), .int .i64 e.2])
theorem formsO_gobj : FormsO = gobj fmG := by
  unfold FormsO; rw [mobj_gobj]; rfl
def nextVF {seen : Array Nat} (x : NextX fmL seen) : Value := match x.1 with
  | none => .tuple #[.bool false]
  | some (_, e) => .tuple #[.bool true, .int .i64 e.1, .agg #[str (fmName e.1), .int .i64 e.2]]
section
variable {Kc : Act → World → Prop} {P : Program} {o : Oper} {S : Slots} {w0 : World} {I : Mem} {H : Heap} {N : Nat} {ops : Array Oper} {lab : Lab} {ids : Nat → Option Nat} {ls : List Nat} {i d : Nat}
theorem DL.rangeF {t kt et : TypeId} {x : Operand} {bm : Nat} (hm : ∀ w, (underlying t).run P w = .ok (.map kt et) w) (hM : ∀ w, Cls w0 I H w → w.heap[bm]? = some FormsO) (hi : ops[i]? = some o) (hw : Wn ops S o true) (hd : o.dst = some d) (hN : Nat.blt d N = true) (hk : (lab i).1 = .keep)
    (ho : o.op = .range t x) (hx : ev S x = some (.map (some bm))) (h : ∀ b, DK P N w0 I Kc ops lab ids ls ((d, ptr b 0) :: S) ((some b, iobj bm 9 #[]) :: H)) : DK P N w0 I Kc ops lab ids (i :: ls) S H :=
  DL.rangeG (l := fmG) hm (fun w hc => formsO_gobj ▸ hM w hc) hi hw hd hN hk ho hx h
theorem f_nextF {seen : Array Nat} {r bm j : Nat} {x : Operand} (hH : H[j]? = some (some r, iobj bm 9 seen)) (hM : ∀ w, Cls w0 I H w → w.heap[bm]? = some FormsO) (ho : o.op = .next x false) (hx : ev S x = some (ptr r 0)) :
    FAct P o w0 I S H (NextX fmL seen) nextVF (nextH r bm j H) := fun ρ hρ w hc => by
  have hG := f_nextG (P := P) (l := fmG) hH (fun w hc => formsO_gobj ▸ hM w hc) ho hx ρ hρ w hc
  have conv : ∀ x : NextG fmG.length seen, ∃ y : NextX fmL seen, nextVF y = nextGV fmG x ∧ nextH r bm j H y = nextGH r bm j H x := by
    rintro ⟨x, hx⟩
    cases x with
    | none =>
      refine ⟨⟨none, ?_⟩, rfl, rfl⟩
      show remOf fmL seen = []
      unfold remOf
      rw [List.map_eq_nil_iff, List.filter_eq_nil_iff]
      intro p hp hc
      rw [show p = (p.1, p.2) from rfl, List.mem_zipIdx_iff_getElem?] at hp
      have h1 := (List.getElem?_eq_some_iff.1 hp).1
      have h2 := hx p.2 h1
      simp at hc; exact hc h2
    | some i =>
      obtain ⟨hlt, hs⟩ := hx
      have hlt' : i < fmL.length := hlt
      refine ⟨⟨some (i, fmL[i]), List.getElem?_eq_getElem hlt', hs⟩, ?_, rfl⟩
      unfold nextGV nextVF
      have : fmG[i]? = some (.int .i64 fmL[i].1, .agg #[str (fmName fmL[i].1), .int .i64 fmL[i].2]) := by
        unfold fmG; rw [List.getElem?_map, List.getElem?_eq_getElem hlt']; rfl
      simp only [this]
  rcases hG with ⟨x, w', h1, h2⟩ | ⟨x, w', h1, h2, h3⟩ | ⟨f, args, w1, h1, h2⟩
  · obtain ⟨y, e1, e2⟩ := conv x
    exact .inl ⟨y, w', by rw [e1]; exact h1, by rw [e2]; exact h2⟩
  · obtain ⟨y, e1, e2⟩ := conv x
    exact .inr (.inl ⟨y, w', h1, by rw [e1]; exact h2, by rw [e2]; exact h3⟩)
  · refine .inr (.inr ⟨f, args, w1, h1, h2.mono fun e w' ⟨x, he, hc'⟩ => ?_⟩)
    obtain ⟨y, e1, e2⟩ := conv x
    exact ⟨y, by rw [e1]; exact he, by rw [e2]; exact hc'⟩
theorem f_entryF {seen : Array Nat} {r bm j i : Nat} {e : Int × Int} {x : Operand} (hH : H[j]? = some (some r, iobj bm 9 (seen.push i))) (hM : ∀ w, Cls w0 I H w → w.heap[bm]? = some FormsO) (he : fmL[i]? = some e) (ho : o.op = .entry x) (hx : ev S x = some (ptr r 0)) :
    FQuiet P o w0 I S H (.tuple #[.int .i64 e.1, .agg #[str (fmName e.1), .int .i64 e.2]]) :=
  f_entryG (l := fmG) (e := (.int .i64 e.1, .agg #[str (fmName e.1), .int .i64 e.2])) hH (fun w hc => formsO_gobj ▸ hM w hc) (by unfold fmG; rw [List.getElem?_map, he]; rfl) ho hx
end

/-! ### strconv.Atoi, strings.CutPrefix -/
/-- The tables, and the two errors' variables, stay as they are laid. -/
structure GlobE (M : Mem) : Prop where
  g : Glob M
  v1 : ∀ w, Imm M w → ∃ ev, w.cell? ⟨1, 0, none⟩ = some ev ∧ (ev = .nilIface ∨ ∃ te pe, ev = .iface te pe)
  v2 : ∀ w, Imm M w → ∃ ev, w.cell? ⟨2, 0, none⟩ = some ev ∧ (ev = .nilIface ∨ ∃ te pe, ev = .iface te pe)
theorem GlobE.mono {M M' : Mem} (h : GlobE M) (hx : Ext M M') : GlobE M' := ⟨h.g.mono hx, fun w hi => h.v1 w fun b o e => hi b o (hx b o e), fun w hi => h.v2 w fun b o e => hi b o (hx b o e)⟩
/-- An error, nil or not. -/
def ErrV (v : Value) (b : Bool) : Prop := if b = true then v = .nilIface else ∃ t p, v = .iface t p
def atoiR (s : List UInt8) : Int × Bool := match Lib.atoiAll s with
  | .ok v => (v, true)
  | .«syntax» => (0, false)
  | .range => (Lib.atoiSat s, false)
def tm_atoi.f (a0 : List UInt8) : Option (Int × Bool) := if a0.length ≤ 281474976710656 then some (atoiR a0) else none
theorem postF_below {G : Type} {u : G → Value} {Q : G → Mem → Prop} {M : Mem} {w w' : World} {e : Ending} (hM : Ext M (heapOf w)) (hb : Below w.heap.size w w') (g : G) (he : e = .returned (u g)) (hQ : Q g M) : PostF u Q M w e w' :=
  ⟨g, M, he, hQ, Ext.refl _, fun b h1 h2 => absurd h1 h2, fun b o h => by
    have h1 : w.heap[b]? = some o := hM b o h
    rw [hb.block b (lt_of_get h1)]; exact h1, hb⟩
theorem tm_atoi.ok {a0 : List UInt8} {r_0 : Int} {r_1 : Bool} (h : tm_atoi.f a0 = some (r_0, r_1)) {M : Mem} (w : World) (hM : Ext M (heapOf w)) (hG : GlobE M) : Calls Tryd.prog 70 #[str a0] w (PostF (G := Value) (fun g => .tuple #[.int .i64 r_0, g]) (fun g M_ => ErrV g r_1) M w) := by
  unfold tm_atoi.f at h
  split at h
  · rename_i hl
    have hs : (⟨a0.toArray⟩ : ByteArray).size = a0.length := by simp [ByteArray.size]
    obtain ⟨e1, h1, h1'⟩ := hG.v1 w hM
    obtain ⟨e2, h2, h2'⟩ := hG.v2 w hM
    have h := Option.some.inj h
    unfold atoiR at h
    cases hq : Lib.atoiAll a0 with
    | ok v =>
      rw [hq] at h; cases h
      refine (Tryd.strconv_Atoi_ok ⟨a0.toArray⟩ (by rw [hs]; omega) r_0 hq w).mono fun e w' ⟨he, hw⟩ => ?_
      refine postF_below hM ?_ .nilIface he rfl
      rcases hw with rfl | ⟨t, rfl⟩
      · exact Below.refl _ _
      · exact Joins.below_bytesWorld _ _ _ _ (Nat.le_refl _)
    | «syntax» =>
      rw [hq] at h; cases h
      refine (Tryd.strconv_Atoi_syntax ⟨a0.toArray⟩ (by rw [hs]; omega) hq e1 w h1 h1').mono fun e w' ⟨N, he, _, _, hb⟩ => ?_
      exact postF_below hM hb _ he ⟨_, _, rfl⟩
    | range =>
      rw [hq] at h; cases h
      refine (Tryd.strconv_Atoi_range ⟨a0.toArray⟩ (by rw [hs]; omega) hq e2 w h2 h2').mono fun e w' ⟨N, he, _, _, hb⟩ => ?_
      exact postF_below hM hb _ he ⟨_, _, rfl⟩
  · cases h
theorem p_nilEq {P : Program} {o : Oper} {S : Slots} {T U : TypeId} {x : Operand} {v : Value} {b : Bool} (h : ErrV v b) (hr : ∀ w, (binOp .eql T v .nilIface).run P w = .ok (.bool b) w) (ho : o.op = .binOp .eql T x (.const .nilIface) U) (hx : ev S x = some v) : FPure P o S (.bool b) := fun ρ hρ w => by
  simp only [execOp, ho, hρ _ _ hx, hρ (.const .nilIface) _ rfl]
  refine val_run ?_
  have hg : (eqGuard .eql T x (.const .nilIface) v .nilIface).run P w = .ok () w := by
    unfold ErrV at h
    cases b with
    | true => simp only [if_true] at h; subst h; unfold eqGuard; simp only [Bool.not_true, Bool.false_eq_true, if_false, Bool.or_true, if_true]; rfl
    | false => obtain ⟨t, p, rfl⟩ := h; rfl
  exact (run_of_bind hg).trans (hr w)
theorem errEq {v : Value} {b : Bool} (h : ErrV v b) (w : World) : (binOp .eql 93 v .nilIface).run Tryd.prog w = .ok (.bool b) w := by
  unfold ErrV at h
  cases b with
  | true => simp only [if_true] at h; subst h; kernel_rfl
  | false =>
    obtain ⟨t, p, rfl⟩ := h
    kernel_rfl
theorem cut_ok (s p : List UInt8) (w : World) : Calls Tryd.prog 71 #[str s, str p] w fun e w' => e = .returned (.tuple #[str (Lib.trimPrefix s p), .bool (Lib.hasPrefix s p)]) ∧ Below w.heap.size w w' :=
  (Tryd.strings_CutPrefix ⟨s.toArray⟩ ⟨p.toArray⟩ w).mono fun e w' ⟨he, hw⟩ => ⟨he, by rw [hw]; exact Below.refl _ _⟩
end Go.Proofs.YtfbogkhgfaibbaaDoor
end

section
namespace Go.Proofs.YtfbogkhgfaibbaaDoor
open Go Go.HW Go.RowKit Go.ChangeShapes Go.WideShapes Go.ChangeAt Go.Lib
set_option linter.unusedVariables false

/-- What the rows list that read texts back. -/
abbrev laidE : List (String × DataW Unit) := [("math/bits.deBruijn32tab", Rows.laid_math_bits_deBruijn32tab), ("math/bits.deBruijn64tab", Rows.laid_math_bits_deBruijn64tab), ("internal/strconv.uint64pow10", Rows.laid_internal_strconv_uint64pow10), ("strconv.ErrRange", Rows.laid_strconv_ErrRange), ("strconv.ErrSyntax", Rows.laid_strconv_ErrSyntax)]
abbrev synS : ByteArray := { data := #[105, 110, 118, 97, 108, 105, 100, 32, 115, 121, 110, 116, 97, 120] }
abbrev rngS : ByteArray := { data := #[118, 97, 108, 117, 101, 32, 111, 117, 116, 32, 111, 102, 32, 114, 97, 110, 103, 101] }
noncomputable def low : Nat := (World.holding Tryd.prog default ⟨#[], #[], []⟩).heap.size
noncomputable def laidWorldE (os : Os) : World :=
  let w0 := World.holding Tryd.prog os ⟨#[.cells #[.string rngS] 164, .cells #[.string synS] 164], #[], []⟩
  let put (h : Array Obj) (g : Nat) (cs : Array Value) : Array Obj := h.modify g fun
    | .cells _ t frozen => .cells cs t frozen
    | o => o
  let h1 := put w0.heap 0 (litsOf Rows.laid_internal_strconv_uint64pow10).toArray
  let h2 := put h1 4 (litsOf Rows.laid_math_bits_deBruijn32tab).toArray
  let h3 := put h2 5 (litsOf Rows.laid_math_bits_deBruijn64tab).toArray
  let h4 := put h3 2 #[.iface 162 (.pointer (some ⟨low, 0, none⟩))]
  let h5 := put h4 1 #[.iface 162 (.pointer (some ⟨low + 1, 0, none⟩))]
  { w0 with heap := h5 }
theorem laidE_met (os : Os) (args : Array Value) : laidMetH Tryd.prog laidE ((laidWorldE os).forCall (fun _ _ => 0) ⟨#[], args, []⟩).memory :=
  (LaidIn.of_run (l := laidE) [0, 4, 5, 2, 1, low, low + 1] 8 (by kernel_rfl) (by kernel_rfl) (by kernel_rfl) (by kernel_rfl)).met
theorem star : "*" ++ "errors.errorString" = "*errors.errorString" := by decide
theorem row162 (u : TypeId) (h : Tryd.prog.typeName? 3 u = some "*errors.errorString") : u = 162 :=
  typeName_ptr_named (nm := "errors.errorString") (by rw [star]; kernel_rfl) (by kernel_rfl) (by decide) u (by rw [star]; exact h)
theorem pow_ofE {W : World} (h : laidMetH Tryd.prog laidE W) : Lib.TabIs Tryd.prog W "internal/strconv.uint64pow10" .u64 Lib.pow10Tab := by
  have hL : laidMet Tryd.prog laidE W := h
  obtain ⟨ps, ⟨g1, t1, cs1, f1, p1, q1, _, _, _, _, ⟨g2, t2, cs2, f2, p2, q2, _, _, _, _, ⟨g, t', cs, fuel, p, q, hg', ht', hvar, hd, _, _⟩, _⟩, _⟩, _⟩ := hL
  obtain rfl := Option.some.inj ((show Tryd.prog.globalNamed "internal/strconv.uint64pow10" = some 0 by kernel_rfl).symm.trans hg')
  obtain rfl := Option.some.inj ((show (Tryd.prog.globals[0]?).map (·.type) = some 147 by kernel_rfl).symm.trans ht')
  unfold Lib.TabIs
  rw [d_pow] at hd
  rw [hvar, ← Lib.cells_of_tab (n := 20) (by kernel_rfl : Tryd.prog.underlying 147 = some (.array 20 99)) (by kernel_rfl : Tryd.prog.underlying 99 = some (.int .u64)) (by kernel_rfl) (by kernel_rfl) hd]
theorem gE1 : Tryd.prog.globalNamed "strconv.ErrSyntax" = some 1 := by kernel_rfl
theorem gE2 : Tryd.prog.globalNamed "strconv.ErrRange" = some 2 := by kernel_rfl
noncomputable def fldE : Field := match Tryd.prog.underlying 164 with
  | some (.struct fs) => fs.getD 0 { name := "", type := 0, offset := 0, embedded := false, tag := "", pkgPath := "", byteOffset := 0 }
  | _ => { name := "", type := 0, offset := 0, embedded := false, tag := "", pkgPath := "", byteOffset := 0 }
noncomputable def msE : Array (String × TypeId) := match Tryd.prog.underlying 93 with
  | some (.interface ms) => ms
  | _ => #[]
theorem globE_of {W : World} (h : laidMetH Tryd.prog laidE W) : GlobE (heapOf W) := by
  have hL : laidMet Tryd.prog laidE W := h
  have h4 := hL.tail.tail.tail
  have h5 := h4.tail
  refine ⟨fun w' hw => var_stays hw (pow_ofE h), fun w' hw => ?_, fun w' hw => ?_⟩
  · obtain ⟨a, s, hv, -, -, -⟩ := laid_sentinel h5 gE1 (by kernel_rfl : (Tryd.prog.globals[1]?).map (·.type) = some 93) (by kernel_rfl : Tryd.prog.underlying 93 = some (.interface msE)) row162 (by kernel_rfl : Tryd.prog.underlying 162 = some (.pointer 164)) (by kernel_rfl : Tryd.prog.underlying 164 = some (.struct #[fldE])) (by kernel_rfl : fldE.type = 9) (by kernel_rfl : fldE.offset = 0) (by kernel_rfl) (by kernel_rfl) (by kernel_rfl)
    have h0 := World.var?_cell gE1 (var_stays hw hv) 0
    exact ⟨_, by simpa using h0, .inr ⟨_, _, rfl⟩⟩
  · obtain ⟨a, s, hv, -, -, -⟩ := laid_sentinel h4 gE2 (by kernel_rfl : (Tryd.prog.globals[2]?).map (·.type) = some 93) (by kernel_rfl : Tryd.prog.underlying 93 = some (.interface msE)) row162 (by kernel_rfl : Tryd.prog.underlying 162 = some (.pointer 164)) (by kernel_rfl : Tryd.prog.underlying 164 = some (.struct #[fldE])) (by kernel_rfl : fldE.type = 9) (by kernel_rfl : fldE.offset = 0) (by kernel_rfl) (by kernel_rfl) (by kernel_rfl)
    have h0 := World.var?_cell gE2 (var_stays hw hv) 0
    exact ⟨_, by simpa using h0, .inr ⟨_, _, rfl⟩⟩
theorem open_text {P : Program} {w : World} {r : Reach} {b0 : Nat} {ty : TypeId} {v : Value} (ht : P.underlying ty = some .string) (hv : Value.okWide P w r b0 ty v) : ∃ s : List UInt8, v = str s := by
  obtain ⟨s, rfl⟩ := okWide_string ht hv
  exact ⟨s.data.toList, by cases s; rfl⟩
end Go.Proofs.YtfbogkhgfaibbaaDoor
end

section
namespace Go.Proofs.YtfbogkhgfaibbaaDoor
open Go Go.HW Go.RowKit
set_option linter.unusedVariables false
set_option linter.unusedSimpArgs false

/-! ### numerals -/
def isDig (b : UInt8) : Prop := 48 ≤ b.toNat ∧ b.toNat ≤ 57
theorem ofNat_dig {k : Nat} (h : k < 10) : (UInt8.ofNat (48 + k)).toNat = 48 + k := by
  rw [UInt8.toNat_ofNat']; omega
theorem decDigits_dig (u : Nat) : ∀ b ∈ Lib.decDigits u, isDig b := by
  induction u using Nat.strongRecOn with
  | _ u ih =>
    intro b hb
    rw [Lib.decDigits] at hb
    split at hb
    · rename_i h
      simp only [List.mem_singleton] at hb; subst hb
      unfold isDig; rw [ofNat_dig h]; omega
    · rename_i h
      rcases List.mem_append.1 hb with hb | hb
      · exact ih _ (by omega) b hb
      · simp only [List.mem_singleton] at hb; subst hb
        unfold isDig; rw [ofNat_dig (by omega)]; omega
theorem decDigits_ne (u : Nat) : Lib.decDigits u ≠ [] := by
  rw [Lib.decDigits]; split <;> simp
theorem decDigits_inj : ∀ {u v : Nat}, Lib.decDigits u = Lib.decDigits v → u = v := by
  intro u
  induction u using Nat.strongRecOn with
  | _ u ih =>
    intro v h
    rw [Lib.decDigits] at h
    conv at h => rhs; rw [Lib.decDigits]
    split at h <;> split at h
    · rename_i h1 h2
      have := congrArg (fun l => (l.headD 0).toNat) h
      simp only [List.headD_cons] at this
      rw [ofNat_dig h1, ofNat_dig h2] at this; omega
    · have := congrArg List.length h
      simp at this; exact absurd this (decDigits_ne _)
    · have := congrArg List.length h
      simp at this; exact absurd this (decDigits_ne _)
    · rename_i h1 h2
      obtain ⟨e1, e2⟩ := List.append_inj' h rfl
      have e3 := ih _ (by omega) e1
      have := congrArg (fun l => (l.headD 0).toNat) e2
      simp only [List.headD_cons] at this
      rw [ofNat_dig (by omega), ofNat_dig (by omega)] at this; omega
theorem itoa_dig {n : Int} (h : 0 ≤ n) : ∀ b ∈ Lib.itoa n, isDig b := by
  unfold Lib.itoa; rw [if_neg (by omega)]; exact decDigits_dig _
theorem itoa_ne {n : Int} (h : 0 ≤ n) : Lib.itoa n ≠ [] := by
  unfold Lib.itoa; rw [if_neg (by omega)]; exact decDigits_ne _
theorem itoa_inj {n m : Int} (h : 0 ≤ n) (h' : 0 ≤ m) (e : Lib.itoa n = Lib.itoa m) : n = m := by
  unfold Lib.itoa at e; rw [if_neg (by omega), if_neg (by omega)] at e
  have := decDigits_inj e; omega
/-- What follows a term's text. -/
def Stops (r : List UInt8) : Prop := r = [] ∨ ∃ c t, r = c :: t ∧ (c = 44 ∨ c = 41)
theorem Stops.nodig {r : List UInt8} (h : Stops r) {b : UInt8} {t : List UInt8} (e : r = b :: t) : ¬ isDig b := by
  rcases h with h | ⟨c, t', h, hc⟩
  · rw [h] at e; cases e
  · rw [h] at e; cases e
    unfold isDig
    rcases hc with rfl | rfl <;> decide
theorem split_dig : ∀ {xs ys r r' : List UInt8}, (∀ b ∈ xs, isDig b) → (∀ b ∈ ys, isDig b) → Stops r → Stops r' → xs ++ r = ys ++ r' → xs = ys ∧ r = r'
  | [], [], r, r', _, _, _, _, h => ⟨rfl, by simpa using h⟩
  | [], y :: ys, r, r', _, h2, h3, _, h => absurd (h2 y List.mem_cons_self) (h3.nodig (by simpa using h))
  | x :: xs, [], r, r', h1, _, _, h4, h => absurd (h1 x List.mem_cons_self) (h4.nodig (by simpa using h.symm))
  | x :: xs, y :: ys, r, r', h1, h2, h3, h4, h => by
    simp only [List.cons_append, List.cons.injEq] at h
    obtain ⟨e1, e2⟩ := split_dig (fun b hb => h1 b (List.mem_cons_of_mem _ hb)) (fun b hb => h2 b (List.mem_cons_of_mem _ hb)) h3 h4 h.2
    exact ⟨by rw [h.1, e1], e2⟩

/-! ### terms that fit -/
inductive K1 where | pub | hash
  deriving DecidableEq
inductive K2 where | enc | sign | mac | pair | shared
  deriving DecidableEq
inductive U where
  | d (n : Int)
  | s (n : Int)
  | un (k : K1) (a : U)
  | bi (k : K2) (a b : U)
  deriving DecidableEq
def K1.num : K1 → Int | .pub => 3 | .hash => 9
def K2.num : K2 → Int | .enc => 4 | .sign => 5 | .mac => 6 | .pair => 7 | .shared => 8
def K1.name : K1 → List UInt8 | .pub => [112, 117, 98, 108, 105, 99] | .hash => [104, 97, 115, 104]
def K2.name : K2 → List UInt8 | .enc => [115, 101, 97, 108] | .sign => [115, 105, 103, 110] | .mac => [109, 97, 99] | .pair => [112, 97, 105, 114] | .shared => [115, 104, 97, 114, 101, 100]
def U.tm : U → Tm
  | .d n => Tm.mk 1 n []
  | .s n => Tm.mk 2 n []
  | .un k a => Tm.mk k.num 0 [a.tm]
  | .bi k a b => Tm.mk k.num 0 [a.tm, b.tm]
def U.size : U → Nat
  | .d _ => 1
  | .s _ => 1
  | .un _ a => a.size + 1
  | .bi _ a b => a.size + b.size + 1
def U.ok : U → Prop
  | .d n => 0 ≤ n ∧ n ≤ 9223372036854775807
  | .s n => 0 ≤ n ∧ n ≤ 9223372036854775807
  | .un _ a => a.ok
  | .bi _ a b => a.ok ∧ b.ok
def U.txt : U → List UInt8
  | .d n => 100 :: Lib.itoa n
  | .s n => 115 :: Lib.itoa n
  | .un k a => k.name ++ 40 :: (a.txt ++ [41])
  | .bi k a b => k.name ++ 40 :: (a.txt ++ 44 :: (b.txt ++ [41]))
theorem U.txt_len : ∀ {u : U}, u.ok → u.txt.length ≤ 30 * u.size
  | .d n, h => by have := Lib.itoa_length_le n (by have := h.1; omega) h.2; simp [U.txt, U.size]; omega
  | .s n, h => by have := Lib.itoa_length_le n (by have := h.1; omega) h.2; simp [U.txt, U.size]; omega
  | .un k a, h => by
    have := U.txt_len (u := a) h
    have hk : k.name.length ≤ 6 := by cases k <;> decide
    simp [U.txt, U.size]; omega
  | .bi k a b, h => by
    have h1 := U.txt_len h.1
    have h2 := U.txt_len h.2
    have hk : k.name.length ≤ 6 := by cases k <;> decide
    simp [U.txt, U.size]; omega
theorem dig_ne {n : Int} (hn : 0 ≤ n) {c : UInt8} {r r' : List UInt8} (hc : ¬ isDig c) (h : Lib.itoa n ++ r = c :: r') : False := by
  cases h1 : Lib.itoa n with
  | nil => exact itoa_ne hn h1
  | cons b t =>
    rw [h1] at h
    simp only [List.cons_append, List.cons.injEq] at h
    have := itoa_dig hn b (by rw [h1]; exact List.mem_cons_self)
    rw [h.1] at this; exact hc this
theorem dig_ne' {n : Int} (hn : 0 ≤ n) {c : UInt8} {r r' : List UInt8} (hc : ¬ isDig c) (h : c :: r' = Lib.itoa n ++ r) : False := dig_ne hn hc h.symm
theorem st44 (r : List UInt8) : Stops (44 :: r) := .inr ⟨44, r, rfl, .inl rfl⟩
theorem st41 (r : List UInt8) : Stops (41 :: r) := .inr ⟨41, r, rfl, .inr rfl⟩
theorem nd101 : ¬ isDig 101 := by unfold isDig; decide
theorem nd104 : ¬ isDig 104 := by unfold isDig; decide
theorem nd105 : ¬ isDig 105 := by unfold isDig; decide
/-- A text is read in one way. -/
theorem txt_split : ∀ {u v : U} {r r' : List UInt8}, u.ok → v.ok → Stops r → Stops r' → u.txt ++ r = v.txt ++ r' → u = v ∧ r = r' := by
  intro u
  induction u with
  | d n =>
    intro v r r' hu hv h1 h2 h
    cases v with
    | d m =>
      simp only [U.txt, List.cons_append, List.cons.injEq, true_and] at h
      obtain ⟨e, e2⟩ := split_dig (itoa_dig hu.1) (itoa_dig hv.1) h1 h2 h
      exact ⟨by rw [itoa_inj hu.1 hv.1 e], e2⟩
    | s m => simp [U.txt] at h
    | un k a => cases k <;> simp [U.txt, K1.name] at h
    | bi k a b => cases k <;> simp [U.txt, K2.name] at h
  | s n =>
    intro v r r' hu hv h1 h2 h
    cases v with
    | d m => simp [U.txt] at h
    | s m =>
      simp only [U.txt, List.cons_append, List.cons.injEq, true_and] at h
      obtain ⟨e, e2⟩ := split_dig (itoa_dig hu.1) (itoa_dig hv.1) h1 h2 h
      exact ⟨by rw [itoa_inj hu.1 hv.1 e], e2⟩
    | un k a => cases k <;> simp [U.txt, K1.name] at h
    | bi k a b =>
      cases k <;> simp only [U.txt, K2.name, List.cons_append, List.cons.injEq, true_and] at h
      · exact (dig_ne hu.1 nd101 h).elim
      · exact (dig_ne hu.1 nd105 h).elim
      · simp at h
      · simp at h
      · exact (dig_ne hu.1 nd104 h).elim
  | un k a ih =>
    intro v r r' hu hv h1 h2 h
    cases v with
    | d m => cases k <;> simp [U.txt, K1.name] at h
    | s m => cases k <;> simp [U.txt, K1.name] at h
    | un k' a' =>
      cases k <;> cases k' <;> simp [U.txt, K1.name] at h
      all_goals
        obtain ⟨e, e2⟩ := ih (v := a') hu hv (st41 _) (st41 _) h
        exact ⟨by rw [e], by simpa using e2⟩
    | bi k' a' b' => cases k <;> cases k' <;> simp [U.txt, K1.name, K2.name] at h
  | bi k a b iha ihb =>
    intro v r r' hu hv h1 h2 h
    cases v with
    | d m => cases k <;> simp [U.txt, K2.name] at h
    | s m =>
      cases k <;> simp only [U.txt, K2.name, List.cons_append, List.cons.injEq, true_and] at h
      · exact (dig_ne' hv.1 nd101 h).elim
      · exact (dig_ne' hv.1 nd105 h).elim
      · simp at h
      · simp at h
      · exact (dig_ne' hv.1 nd104 h).elim
    | un k' a' => cases k <;> cases k' <;> simp [U.txt, K1.name, K2.name] at h
    | bi k' a' b' =>
      cases k <;> cases k' <;> simp [U.txt, K2.name] at h
      all_goals
        obtain ⟨e, e2⟩ := iha hu.1 hv.1 (st44 _) (st44 _) h
        simp only [List.cons.injEq, true_and] at e2
        obtain ⟨e3, e4⟩ := ihb hu.2 hv.2 (st41 _) (st41 _) e2
        exact ⟨by rw [e, e3], by simpa using e4⟩
theorem txt_inj {u v : U} (hu : u.ok) (hv : v.ok) (h : u.txt = v.txt) : u = v :=
  (txt_split (r := []) (r' := []) hu hv (.inl rfl) (.inl rfl) (by rw [h])).1
/-! ### order -/
/-- A term whose shared keys stand in order. -/
def U.ordr : U → U
  | .un k a => .un k a.ordr
  | .bi k a b => if k = .shared ∧ (lessL a.ordr.txt b.ordr.txt || a.ordr.txt == b.ordr.txt) = false then .bi k b.ordr a.ordr else .bi k a.ordr b.ordr
  | u => u
theorem ordr_size : ∀ (u : U), u.ordr.size = u.size
  | .d _ => rfl
  | .s _ => rfl
  | .un k a => by simp only [U.ordr, U.size, ordr_size a]
  | .bi k a b => by
    unfold U.ordr
    split <;> simp only [U.size, ordr_size a, ordr_size b]; omega
theorem ordr_ok : ∀ {u : U}, u.ok → u.ordr.ok
  | .d _, h => h
  | .s _, h => h
  | .un k a, h => ordr_ok (u := a) h
  | .bi k a b, h => by
    unfold U.ordr
    split
    · exact ⟨ordr_ok h.2, ordr_ok h.1⟩
    · exact ⟨ordr_ok h.1, ordr_ok h.2⟩

/-! ### what follows from what -/
/-- What can be put together out of S. -/
def Syn (S : U → Prop) : U → Prop
  | .d _ => True
  | .s n => S (.s n)
  | .un k a => S (.un k a) ∨ Syn S a
  | .bi .shared a b => S (.bi .shared a b) ∨ (Syn S a ∧ (Syn S b ∨ S (.un .pub b))) ∨ (Syn S b ∧ S (.un .pub a))
  | .bi k a b => S (.bi k a b) ∨ (Syn S a ∧ Syn S b)
theorem Syn.of {S : U → Prop} : ∀ {u : U}, S u → Syn S u
  | .d _, _ => trivial
  | .s _, h => h
  | .un _ _, h => .inl h
  | .bi k _ _, h => by cases k <;> exact .inl h
theorem Syn.mono {S T : U → Prop} (hS : ∀ u, S u → T u) : ∀ {u : U}, Syn S u → Syn T u
  | .d _, _ => trivial
  | .s _, h => hS _ h
  | .un _ a, h => h.imp (hS _) fun x => Syn.mono hS x
  | .bi k a b, h => by
    have ha := fun x => Syn.mono hS (u := a) x
    have hb := fun x => Syn.mono hS (u := b) x
    cases k
    case shared => exact h.imp (hS _) (Or.imp (fun ⟨x, y⟩ => ⟨ha x, y.imp hb (hS _)⟩) fun ⟨x, y⟩ => ⟨hb x, hS _ y⟩)
    all_goals exact h.imp (hS _) fun ⟨x, y⟩ => ⟨ha x, hb y⟩
/-- Put together out of what is put together. -/
theorem Syn.idem {S : U → Prop} : ∀ {u : U}, Syn (Syn S) u → Syn S u
  | .d _, _ => trivial
  | .s _, h => h
  | .un _ a, h => h.elim id fun x => .inr (Syn.idem x)
  | .bi k a b, h => by
    have ha := fun x => Syn.idem (S := S) (u := a) x
    have hb := fun x => Syn.idem (S := S) (u := b) x
    cases k
    case shared =>
      rcases h with h | ⟨x, y⟩ | ⟨x, y⟩
      · exact h
      · refine .inr ?_
        rcases y with y | y
        · exact .inl ⟨ha x, .inl (hb y)⟩
        · rcases (show S (.un .pub b) ∨ Syn S b from y) with y | y
          · exact .inl ⟨ha x, .inr y⟩
          · exact .inl ⟨ha x, .inl y⟩
      · refine .inr ?_
        rcases (show S (.un .pub a) ∨ Syn S a from y) with y | y
        · exact .inr ⟨hb x, y⟩
        · exact .inl ⟨y, .inl (hb x)⟩
    all_goals exact h.elim id fun ⟨x, y⟩ => .inr ⟨ha x, hb y⟩
/-- What one takes apart. -/
def An (S : U → Prop) : U → U → Prop
  | .bi .pair a b, p => p = a ∨ p = b
  | .bi .sign _ b, p => p = b
  | .bi .enc a b, p => Syn S a ∧ p = b
  | _, _ => False
theorem An.mono {S T : U → Prop} (hS : ∀ u, S u → T u) {u p : U} (h : An S u p) : An T u p := by
  cases u with
  | bi k a b =>
    cases k
    case enc => exact ⟨h.1.mono hS, h.2⟩
    all_goals exact h
  | _ => exact h
def ClosedP (S : U → Prop) : Prop := ∀ u, S u → ∀ p, An S u p → S p
/-- What follows from B. -/
def Der (B : U → Prop) (u : U) : Prop := ∀ S, (∀ u, B u → S u) → ClosedP S → S u
theorem Der.base {B : U → Prop} {u : U} (h : B u) : Der B u := fun S hB _ => hB u h
theorem Der.closed {B : U → Prop} : ClosedP (Der B) := fun u hu p hp S hB hS => hS u (hu S hB hS) p (hp.mono fun v hv => hv S hB hS)
theorem Der.mono {B C : U → Prop} (h : ∀ u, B u → C u) {u : U} (hd : Der B u) : Der C u := fun S hC hS => hd S (fun u hu => hC u (h u hu)) hS
/-- The synthesis of what is closed is closed. -/
theorem Syn.closed {S : U → Prop} (hS : ClosedP S) : ClosedP (Syn S) := fun u hu p hp => by
  cases u with
  | bi k a b =>
    cases k
    case pair =>
      rcases hu with hu | ⟨x, y⟩
      · exact Syn.of (hS _ hu p hp)
      · rcases hp with rfl | rfl <;> assumption
    case sign =>
      rcases hu with hu | ⟨x, y⟩
      · exact Syn.of (hS _ hu p hp)
      · obtain rfl : p = b := hp; exact y
    case enc =>
      rcases hu with hu | ⟨x, y⟩
      · exact Syn.of (hS _ hu p ⟨Syn.idem hp.1, hp.2⟩)
      · obtain rfl : p = b := hp.2; exact y
    all_goals exact hp.elim
  | _ => exact hp.elim
/-- The cut. -/
theorem Der.cut {B C : U → Prop} (h : ∀ u, C u → Syn (Der B) u) {t : U} (hd : Syn (Der C) t) : Syn (Der B) t :=
  Syn.idem (hd.mono fun u hu => hu _ h (Syn.closed Der.closed))
theorem Der.pair {B : U → Prop} {a b : U} : Syn (Der B) (.bi .pair a b) ↔ Syn (Der B) a ∧ Syn (Der B) b :=
  ⟨fun h => h.elim (fun h => ⟨Syn.of (Der.closed _ h a (.inl rfl)), Syn.of (Der.closed _ h b (.inr rfl))⟩) id, .inr⟩
end Go.Proofs.YtfbogkhgfaibbaaDoor
end
