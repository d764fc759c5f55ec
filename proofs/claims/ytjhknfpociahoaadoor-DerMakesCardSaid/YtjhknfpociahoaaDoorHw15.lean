import Derived.Test.YtjhknfpociahoaaDoorHw14
import Derived.Lib.SliceRun
import Derived.Scope
namespace Go.HW
open Go Go.RowKit
set_option linter.unusedVariables false
set_option linter.unusedSimpArgs false

section
variable {P : Program} {o : Oper} {S : Slots} {w0 : World} {I M M0 : Mem} {H A J : Heap} {R : Ending → World → Prop} {N : Nat} {f : FuncId} {K : List Item} {ops : Array Oper} {lab : Lab} {ids : Nat → Option Nat} {l : List Nat} {i d : Nat}

theorem toNat_le {j : Int} {n : Nat} (h : j ≤ (n : Int)) : j.toNat ≤ n := by omega
theorem toNat_le2 {i j : Int} (h : i ≤ j) : i.toNat ≤ j.toNat := by omega
theorem chunk1 {cs : List Value} {i : Nat} {v : Value} (h : chunk cs 1 i = [v]) : cs[i]? = some v := by
  have := chunk_get (cs := cs) (n := 1) (i := i) (j := 0) (q := v) (by rw [h]; rfl)
  simpa using this
theorem RowS.srcC {α : Type} {s : Shape α} {v : Value} {xs : List α} (h : RowS s M v xs) (hM : ∀ w, Cls w0 I H w → Imm M w) : ∃ ds, (∀ i x, xs[i]? = Option.some x → s.rep M (chunk ds s.n i) x) ∧ ∀ w, Cls w0 I H w → Src w v xs.length s.n ds := by
  obtain ⟨cs, h1, h2⟩ := h.src
  exact ⟨cs, h1, fun w hc => h2 w (hM w hc)⟩
theorem OwnS.row {α : Type} {s : Shape α} {v : Value} {cur : Array Value} {xs : List α} {e i : Nat} (h : OwnS s M v cur xs) {w : World} (he : Ext M (heapOf w)) (hc : Cls w0 I H w) (hH : H[i]? = Option.some (v.ownBlock, .cells cur e (0, 0))) : RowS s (heapOf w) v xs := by
  obtain ⟨cs, h1, h2⟩ := h
  exact ⟨cs, h1.row hc (List.mem_of_getElem? hH), fun i x hx => s.mono he (h2 i x hx)⟩
theorem OwnS.strs {v : Value} {cur : Array Value} {xs : List (List UInt8)} (h : OwnS Sh.str M v cur xs) : OwnV v cur 1 xs.length (xs.map str) := by
  obtain ⟨cs, h1, h2⟩ := h
  have : cs = xs.map str := by
    apply List.ext_getElem?
    intro i
    rw [List.getElem?_map]
    cases hx : xs[i]? with
    | none =>
      have h3 : cs.length = xs.length * 1 := h1.1
      simp only [List.getElem?_eq_none_iff] at hx
      simp; omega
    | some s =>
      have h3 : chunk cs 1 i = [str s] := h2 i s hx
      simpa using chunk1 h3
  rw [← this]; exact h1
theorem Cls.none_tail {e : Nat} {w : World} (hc : Cls w0 I H w) : Cls w0 I ((none, .cells #[] e (0, 0)) :: H) w := hc.nothing _

theorem DL.appendI {k : IntKind} {t e bytes j : Nat} {x y : Operand} {v u : Value} {cur : Array Value} {xs ys : List Int} (H' : Value → Array Value → Heap) (E : Elem P t e 1 bytes (.int k 0)) (hH : H[j]? = some (v.ownBlock, .cells cur e (0, 0))) (hown : IntOwn k v cur xs)
    (hb : xs.length + ys.length ≤ 1099511627776) (hby : bytes ≤ 128) (hu : ∀ w, Cls w0 I H w → Src w u ys.length 1 (encl k ys)) (hi : ops[i]? = some o) (hw : Wn ops S o true) (hd : o.dst = some d) (hN : Nat.blt d N = true) (hk : (lab i).1 = .actx)
    (ho : o.op = .call { callee := .builtin .append, args := #[x, y], argTypes := #[t, t] }) (hx : ev S x = some v) (hy : ev S y = some u) (hH' : ∀ v cur, H.set j (v.ownBlock, .cells cur e (0, 0)) = H' v cur)
    (h : ∀ v cur, IntOwn k v cur (xs ++ ys) → DL P f R N w0 I K ops lab ids l ((d, v) :: S) (H' v cur)) : DL P f R N w0 I K ops lab ids (i :: l) S H :=
  DL.actx hi hw hd hN hk (f_appendInt (w0 := w0) (I := I) E hH hown hb hby hu ho hx hy) fun q => by rw [hH']; exact h q.1.1 q.1.2 q.2
theorem FAct.nilTail {o : Oper} {X : Type} {u : X → Value} {H' : X → Heap} {e : Nat} (h : FAct P o w0 I S ((none, .cells #[] e (0, 0)) :: H) X u H') : FAct P o w0 I S H X u H' := fun ρ hρ w hc => h ρ hρ w hc.none_tail
theorem DL.appendI0 {k : IntKind} {t e bytes : Nat} {x y : Operand} {u : Value} {ys : List Int} (H' : Value → Array Value → Heap) (E : Elem P t e 1 bytes (.int k 0))
    (hb : ys.length ≤ 1099511627776) (hby : bytes ≤ 128) (hu : ∀ w, Cls w0 I ((none, .cells #[] e (0, 0)) :: H) w → Src w u ys.length 1 (encl k ys)) (hi : ops[i]? = some o) (hw : Wn ops S o true) (hd : o.dst = some d) (hN : Nat.blt d N = true) (hk : (lab i).1 = .actx)
    (ho : o.op = .call { callee := .builtin .append, args := #[x, y], argTypes := #[t, t] }) (hx : ev S x = some (.slice none 0 0)) (hy : ev S y = some u) (hH' : ∀ v cur, (v.ownBlock, .cells cur e (0, 0)) :: H = H' v cur)
    (h : ∀ v cur, IntOwn k v cur ys → DL P f R N w0 I K ops lab ids l ((d, v) :: S) (H' v cur)) : DL P f R N w0 I K ops lab ids (i :: l) S H :=
  DL.actx hi hw hd hN hk (FAct.nilTail (f_appendInt (w0 := w0) (I := I) (j := 0) E rfl (IntOwn.nil k) (by simpa using hb) hby hu ho hx hy)) fun q => by
    show DL P f R N w0 I K ops lab ids l ((d, q.1.1) :: S) ((q.1.1.ownBlock, .cells q.1.2 e (0, 0)) :: H)
    rw [hH']; exact h q.1.1 q.1.2 (by simpa using q.2)
theorem DL.ownx {k : IntKind} {zs : List Int} {H' : Value → Array Value → Heap} (hi : ops[i]? = some o) (hw : Wn ops S o true) (hd : o.dst = some d) (hN : Nat.blt d N = true) (hk : (lab i).1 = .actx)
    {HH : {x : Value × Array Value // IntOwn k x.1 x.2 zs} → Heap} (hp : FAct P o w0 I S H {x : Value × Array Value // IntOwn k x.1 x.2 zs} (fun x => x.1.1) HH) (hH : ∀ x, HH x = H' x.1.1 x.1.2)
    (h : ∀ v cur, IntOwn k v cur zs → DL P f R N w0 I K ops lab ids l ((d, v) :: S) (H' v cur)) : DL P f R N w0 I K ops lab ids (i :: l) S H :=
  DL.actx hi hw hd hN hk hp fun x => by rw [hH]; exact h x.1.1 x.1.2 x.2
/-- A new row of such elements. -/
theorem DL.newS {α : Type} {s : Shape α} {zs : List α} {cells : List Value} {e n : Nat} (hz : zs.length = n) (hm : n ≤ maxLen) (hl : cells.length = n * s.n) (hr : ∀ i x, zs[i]? = some x → s.rep M (chunk cells s.n i) x) (hi : ops[i]? = some o) (hw : Wn ops S o true) (hd : o.dst = some d) (hN : Nat.blt d N = true) (hk : (lab i).1 = .alloc)
    (hp : FNew P o S (.cells cells.toArray e) (fun b => .slice (some ⟨b, 0, none⟩) n n)) (h : ∀ v cur, OwnS s M v cur zs → DL P f R N w0 I K ops lab ids l ((d, v) :: S) ((v.ownBlock, .cells cur e (0, 0)) :: H)) : DL P f R N w0 I K ops lab ids (i :: l) S H :=
  DL.new hi hw hd hN hk hp fun b hb => h (.slice (some ⟨b, 0, none⟩) n n) cells.toArray ⟨cells, by
    subst hz
    exact OwnV.fresh (Nat.le_refl _) hm (by simpa using hl) (by rw [List.take_of_length_le]; simp [hl]) hl, hr⟩
theorem f_buildS {t e bytes n sz : Nat} {z : Value} {cells : Array Value} {parts : Array (Nat × Operand)} {vs : List (Nat × Value)} (E : Elem P t e sz bytes z) (hn : Nat.ble (n * sz) 16777216 = true) (h0 : Nat.blt 0 n = true)
    (hf : Instr.fill (fun i => some (i * sz, sz)) ((Array.range (n * sz)).map (z.cells[· % z.cells.size]!)) vs = some cells) (ho : o.op = .buildSlice t n parts) (hp : ∀ ρ, Val S ρ → (parts.map fun p => (p.1, ρ p.2)).toList = vs) :
    FNew P o S (.cells cells e) (fun b => .slice (some ⟨b, 0, none⟩) n n) := fun ρ hρ w => by
  obtain ⟨i, hi, hz, hs, hbb⟩ := E.hi
  have h1 := Nat.le_of_ble_eq_true hn
  have h2 : 0 < n := by simpa [Nat.blt_eq] using h0
  simp only [execOp, ho]
  refine val_run ?_
  refine run_buildSlice w t e n _ _ i _ E.ht hi hz (by rw [hs]; omega) (by rw [hs]; have := Nat.mul_pos h2 E.hs; omega) ?_
  rw [hs, ← hf, ← hp ρ hρ]

theorem DL.new0 {α : Type} {s : Shape α} {e : Nat} (hi : ops[i]? = some o) (hw : Wn ops S o true) (hd : o.dst = some d) (hN : Nat.blt d N = true) (hk : (lab i).1 = .alloc) (hp : FNew P o S (.cells #[] e) (fun b => .slice (some ⟨b, 0, none⟩) 0 0))
    (h : ∀ v cur, OwnS s M v cur [] → DL P f R N w0 I K ops lab ids l ((d, v) :: S) ((v.ownBlock, .cells cur e (0, 0)) :: H)) : DL P f R N w0 I K ops lab ids (i :: l) S H :=
  DL.new hi hw hd hN hk hp fun b hb => h (.slice (some ⟨b, 0, none⟩) 0 0) #[] ⟨[], OwnV.fresh (Nat.le_refl _) (Nat.zero_le _) (by simp) (by simp) (by simp), fun i x hx => by simp at hx⟩
theorem DL.new0I (k : IntKind) {e : Nat} (hi : ops[i]? = some o) (hw : Wn ops S o true) (hd : o.dst = some d) (hN : Nat.blt d N = true) (hk : (lab i).1 = .alloc) (hp : FNew P o S (.cells #[] e) (fun b => .slice (some ⟨b, 0, none⟩) 0 0))
    (h : ∀ v cur, IntOwn k v cur [] → DL P f R N w0 I K ops lab ids l ((d, v) :: S) ((v.ownBlock, .cells cur e (0, 0)) :: H)) : DL P f R N w0 I K ops lab ids (i :: l) S H :=
  DL.new hi hw hd hN hk hp fun b hb => h (.slice (some ⟨b, 0, none⟩) 0 0) #[] (OwnV.fresh (Nat.le_refl _) (Nat.zero_le _) (by simp) (by simp [encl]) (by simp [encl]))
theorem f_build0 {t e bytes sz : Nat} {z : Value} {parts : Array (Nat × Operand)} (E : Elem P t e sz bytes z) (ho : o.op = .buildSlice t 0 parts) (hp : ∀ ρ, Val S ρ → (parts.map fun p => (p.1, ρ p.2)).toList = []) :
    FNew P o S (.cells #[] e) (fun b => .slice (some ⟨b, 0, none⟩) 0 0) := fun ρ hρ w => by
  obtain ⟨i, hi, hz, hs, hbb⟩ := E.hi
  simp only [execOp, ho]
  refine val_run ?_
  have h2 : parts = #[] := by simpa using hp ρ hρ
  subst h2
  simp [Instr.buildSlice, run_underlying E.ht, sizeOf, typeInfo, hi, newRow, Instr.fill, show Array.range 0 = #[] from rfl]
theorem p_sliceNil {T U e : TypeId} {x y : Operand} {v : Value} {a : Option Addr} {n c n' c' : Nat} (hu : P.underlying T = some (.slice e)) (hv : v = .slice a n c) (ho : o.op = .binOp .eql T x y U) (hx : ev S x = some v) (hy : ev S y = some (.slice none n' c')) : FPure P o S (.bool a.isNone) := fun ρ hρ w => by
  subst hv
  simp only [execOp, ho, hρ _ _ hx, hρ _ _ hy]
  refine val_run ?_
  exact (run_of_bind (show (eqGuard .eql T x y (.slice a n c) (.slice none n' c')).run P w = .ok () w from rfl)).trans (Lib.run_eql_slice_nil w _ _ a n c n' c' hu)
theorem row_isNil {α : Type} {v : Value} {sz n c : Nat} {xs : List α} {cs : List Value} {a : Option Addr} (h : RowV M v sz xs.length cs) (hv : v = .slice a n c) (ha : a.isNone = true) : xs = [] := by
  obtain ⟨_, a', c', h1, _, h3⟩ := h
  rw [hv] at h1
  injection h1 with h4 h5 h6
  rcases h3 with h3 | ⟨b, off, arr, t, z, e1, _⟩
  · exact List.eq_nil_of_length_eq_zero h3
  · rw [h4, e1] at ha; cases ha
/-- An operation that hands out. -/
theorem DL.handK {G : Type} {v : G → Value} {E : G → Heap} {p : G → Prop} (hi : ops[i]? = some o) (hw : Wn ops S o true) (hd : o.dst = some d) (hN : Nat.blt d N = true) (hk : (lab i).1 = .keep)
    (hp : FAct P o w0 I S H {x : G // p x} (fun x => v x.1) (fun x => E x.1 ++ H)) (h : ∀ g, p g → DL P f R N w0 I K ops lab ids l ((d, v g) :: S) (E g ++ H)) : DL P f R N w0 I K ops lab ids (i :: l) S H :=
  DL.keep (fun x p hp => List.mem_append_right _ hp) hi hw hd hN hk hp fun x => h x.1 x.2
/-- Some of what is owned, in another order. -/
def pick (is : List Nat) (H : Heap) : Heap := is.filterMap fun i => H[i]?
theorem pick_nodup {H : Heap} (hn : (H.filterMap Prod.fst).Nodup) : ∀ {is : List Nat}, is.Nodup → ((pick is H).filterMap Prod.fst).Nodup
  | [], _ => List.nodup_nil
  | i :: is, h => by
    obtain ⟨h1, h2⟩ := List.nodup_cons.1 h
    have ih := pick_nodup hn h2
    unfold pick at ih ⊢
    rw [List.filterMap_cons]
    cases hi : H[i]? with
    | none => exact ih
    | some p =>
      obtain ⟨r, o⟩ := p
      cases r with
      | none => simpa using ih
      | some b =>
        simp only [List.filterMap_cons]
        refine List.nodup_cons.2 ⟨fun hm => ?_, ih⟩
        obtain ⟨u, hu⟩ := mem_ids.1 hm
        obtain ⟨j, hj, he⟩ := List.mem_filterMap.1 hu
        have := ids_unique hn hi he
        subst this
        exact h1 hj
theorem Cls.pick {w : World} (is : List Nat) (hn : is.Nodup) (hc : Cls w0 I H w) : Cls w0 I (HW.pick is H) w :=
  ⟨hc.os, hc.tape, hc.output, hc.size, hc.imm, fun b o hm => by
    obtain ⟨i, _, he⟩ := List.mem_filterMap.1 hm
    exact hc.own b o (List.mem_of_getElem? he), fun b o hm => by
    obtain ⟨i, _, he⟩ := List.mem_filterMap.1 hm
    exact hc.disj b o (List.mem_of_getElem? he), pick_nodup hc.nodup hn⟩
theorem TT.pick (is : List Nat) (hn : is.Nodup) (h : TT P f R N w0 I K S (HW.pick is H)) : TT P f R N w0 I K S H := fun a w ha hc => h a w ha (hc.pick is hn)
theorem TT.goto {l : Nat} {K' : List Item} (he : gotoIn l K = some K') (h : TT P f R N w0 I K' S H) : TT P f R N w0 I (.code (.goto l) :: K) S H := fun a w ha hc => T.goto he (h a w ha hc)
theorem TT.scope {c : Code} (h : TT P f R N w0 I (.code c :: .inScope c :: K) S H) : TT P f R N w0 I (.code (.scope c) :: K) S H := fun a w ha hc => T.scope (fun b cs => step_scope) (h a w ha hc)
theorem DL.cutJ {w1 : World} {I2 M2 : Mem} (A : Heap) (M : Mem) (hE : Env w1 M0 M2 I2) (S' : Slots) (l2 : List Nat) (h1 : ∀ M' J', Env w1 M0 M' (addJ I J') → Ext M M' → DL P f R N w0 I K ops lab ids l2 S' (A ++ J'))
    (h2 : (∀ M' J', Env w1 M0 M' (addJ I J') → Ext M M' → DL P f R N w0 I K ops lab ids l2 S' (A ++ J')) → DL P f R N w0 I K ops lab ids l S H) : DL P f R N w0 I K ops lab ids l S H := h2 h1
/-- A text's bytes as a slice: it stays. -/
theorem DL.strBytes {T T2 e : TypeId} {x : Operand} {s : List UInt8} {w1 : World} (H' : Heap → Heap) (hle : w0.heap.size ≤ w1.heap.size) (hE : Env w0 M0 M (addJ I J)) (hH : H = A ++ J) (hH' : ∀ J', A ++ J' = H' J')
    (hi : ops[i]? = some o) (hw : Wn ops S o true) (hd : o.dst = some d) (hN : Nat.blt d N = true) (hk : (lab i).1 = .keep) (hs : P.underlying T = some .string) (hd2 : P.underlying T2 = some (.slice e)) (he : P.underlying e = some (.int .u8)) (ho : o.op = .convert T T2 x) (hx : ev S x = some (str s))
    (h : ∀ v M' J', Env w0 M0 M' (addJ I J') → Ext M M' → IntRow M' .u8 v (numsL s) → DL P f R N w1 I K ops lab ids l ((d, v) :: S) (H' J')) : DL P f R N w1 I K ops lab ids (i :: l) S H :=
  DL.opF (G := Value) (u := fun v => v) (Q := fun v M' => IntRow M' .u8 v (numsL s)) H' hle hE hH hH' hi hw hd hN hk (fun ρ hρ w hI => by
    let bs : ByteArray := ⟨s.toArray⟩
    have hnone : M w.heap.size = none := by
      cases hm : M w.heap.size with
      | none => rfl
      | some u => have := lt_of_get (hI _ _ hm); omega
    have hsize : bs.size = s.length := by simp [bs, ByteArray.size]
    have hcap : s.length ≤ grownCap w bs.size 0 e := by
      rw [hsize]; exact Nat.le_trans (by omega) (grownCap_ge w s.length 0 e)
    refine ⟨.slice (some ⟨w.heap.size, 0, none⟩) bs.size (grownCap w bs.size 0 e), addJ M [(some w.heap.size, .cells (Lib.bytesCells w e bs) e ((Lib.bytesCells w e bs).size, (Lib.bytesCells w e bs).size + 1))], Lib.bytesWorld w e bs, ?_, ?_, Ext.addJ _ _, ?_, ?_, ?_⟩
    · simp only [execOp, ho, hρ _ _ hx]
      exact val_run (Lib.run_convert_string_bytes w T T2 e bs hs hd2 he)
    · refine ⟨by simp [encl, numsL], some ⟨w.heap.size, 0, none⟩, grownCap w bs.size 0 e, by rw [show (numsL s).length = bs.size by rw [hsize]; simp [numsL]], by rw [show (numsL s).length = s.length by simp [numsL]]; exact hcap, .inr ⟨w.heap.size, 0, Lib.bytesCells w e bs, e, ((Lib.bytesCells w e bs).size, (Lib.bytesCells w e bs).size + 1), rfl, by unfold addJ; rw [hnone]; simp [inJ], fun i q hq => ?_⟩⟩
      have hi : i < s.length := by
        rcases Nat.lt_or_ge i s.length with h' | h'
        · exact h'
        · rw [List.getElem?_eq_none (by simpa [encl, numsL] using h')] at hq; cases hq
      rw [Nat.zero_add, ← hq]
      have hi' : i < bs.data.size := by simpa [bs] using hi
      simp only [Lib.bytesCells]
      rw [Array.getElem?_append_left (by simpa using hi')]
      simp [bs, encl, numsL, hi]
    · intro b h1 h2
      cases hm : addJ M [(some w.heap.size, Obj.cells (Lib.bytesCells w e bs) e ((Lib.bytesCells w e bs).size, (Lib.bytesCells w e bs).size + 1))] b with
      | none => exact absurd hm h2
      | some u =>
        rcases addJ_cases hm with hm | ⟨_, hm⟩
        · rw [h1] at hm; cases hm
        · simp at hm; omega
    · intro b u hm
      rcases addJ_cases hm with hm | ⟨_, hm⟩
      · have := hI b u hm
        rw [Lib.bytesWorld_at_old w e bs b (lt_of_get this)]; exact this
      · simp only [List.mem_singleton, Prod.mk.injEq, Option.some.injEq] at hm
        obtain ⟨rfl, rfl⟩ := hm
        exact Lib.bytesWorld_at_new w e bs
    · refine ⟨rfl, rfl, rfl, by rw [Lib.bytesWorld_size]; omega, fun b hb => Lib.bytesWorld_at_old w e bs b hb⟩) h
end
end Go.HW
