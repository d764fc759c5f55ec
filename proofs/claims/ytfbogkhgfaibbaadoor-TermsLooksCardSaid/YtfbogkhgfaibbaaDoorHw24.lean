import Derived.Test.YtfbogkhgfaibbaaDoorHw23
import Derived.Maps.RangeRun
namespace Go.HW
open Go Go.RowKit
set_option linter.unusedVariables false
set_option linter.unusedSimpArgs false

/-! ### going over a map that stays, in whatever order -/
/-- Entries, whatever their keys. -/
def gents : Nat → List (Value × Value) → List MapEntry
  | _, [] => []
  | n, (s, v) :: r => { key := s, val := v, born := n } :: gents (n + 1) r
def gobj (l : List (Value × Value)) : Obj := .map (gents 0 l).toArray l.length
theorem kents_gents : ∀ (l : List (List UInt8 × Value)) (n : Nat), kents n l = gents n (l.map fun p => (str p.1, p.2))
  | [], n => rfl
  | (s, v) :: l, n => by simp only [kents, List.map_cons, gents, kents_gents l (n + 1)]
theorem kobj_gobj (l : List (List UInt8 × Value)) : kobj l = gobj (l.map fun p => (str p.1, p.2)) := by
  unfold kobj gobj; rw [kents_gents, List.length_map]
theorem ments_gents (k : IntKind) : ∀ (l : List (Int × Value)) (n : Nat), ments k n l = gents n (l.map fun p => (.int k p.1, p.2))
  | [], n => rfl
  | (s, v) :: l, n => by simp only [ments, List.map_cons, gents, ments_gents k l (n + 1)]
theorem mobj_gobj (k : IntKind) (l : List (Int × Value)) : mobj k l = gobj (l.map fun p => (.int k p.1, p.2)) := by
  unfold mobj gobj; rw [ments_gents, List.length_map]
theorem gents_mem {e : MapEntry} : ∀ {l : List (Value × Value)} {n : Nat}, e ∈ gents n l → ∃ i s v, l[i]? = some (s, v) ∧ e = { key := s, val := v, born := n + i }
  | (a, v) :: l, n, h => by
    unfold gents at h
    cases h with
    | head => exact ⟨0, a, v, rfl, rfl⟩
    | tail _ h =>
      obtain ⟨i, b, u, h1, h2⟩ := gents_mem h
      exact ⟨i + 1, b, u, h1, by rw [h2]; congr 1; omega⟩
theorem gents_get : ∀ {l : List (Value × Value)} {n i : Nat} {a v : Value}, l[i]? = some (a, v) → ({ key := a, val := v, born := n + i } : MapEntry) ∈ gents n l
  | (b, u) :: l, n, 0, a, v, h => by
    simp only [List.getElem?_cons_zero, Option.some.injEq, Prod.mk.injEq] at h
    obtain ⟨rfl, rfl⟩ := h
    exact List.mem_cons_self
  | (b, u) :: l, n, i + 1, a, v, h => by
    have := gents_get (l := l) (n := n + 1) (i := i) (a := a) (v := v) (by simpa using h)
    rw [show n + 1 + i = n + (i + 1) by omega] at this
    exact List.mem_cons_of_mem _ this
theorem gents_born : ∀ (l : List (Value × Value)) (n : Nat), (gents n l).map (·.born) = List.range' n l.length
  | [], n => rfl
  | (a, v) :: l, n => by simp only [gents, List.map_cons, gents_born l (n + 1), List.length_cons, List.range'_succ]

/-- What 'next' gives: nothing, or an entry that is left. -/
def NextG (n : Nat) (seen : Array Nat) : Type := {x : Option Nat // match x with
  | none => ∀ i, i < n → i ∈ seen
  | some i => i < n ∧ ¬ i ∈ seen}
def nextGV (l : List (Value × Value)) {seen : Array Nat} (x : NextG l.length seen) : Value := match x.1 with
  | none => .tuple #[.bool false]
  | some i => match l[i]? with
    | some e => .tuple #[.bool true, e.1, e.2]
    | none => undef
def nextGH {n : Nat} {seen : Array Nat} (r bm j : Nat) (H : Heap) (x : NextG n seen) : Heap := match x.1 with
  | none => H
  | some i => H.set j (some r, iobj bm n (seen.push i))
section
variable {Kc : Act → World → Prop} {P : Program} {o : Oper} {S : Slots} {w0 : World} {I : Mem} {H : Heap} {N : Nat} {ops : Array Oper} {lab : Lab} {ids : Nat → Option Nat} {ls : List Nat} {i d : Nat} {l : List (Value × Value)}
theorem DL.rangeG {t kt et : TypeId} {x : Operand} {bm : Nat} (hm : ∀ w, (underlying t).run P w = .ok (.map kt et) w) (hM : ∀ w, Cls w0 I H w → w.heap[bm]? = some (gobj l)) (hi : ops[i]? = some o) (hw : Wn ops S o true) (hd : o.dst = some d) (hN : Nat.blt d N = true) (hk : (lab i).1 = .keep)
    (ho : o.op = .range t x) (hx : ev S x = some (.map (some bm))) (h : ∀ b, DK P N w0 I Kc ops lab ids ls ((d, ptr b 0) :: S) ((some b, iobj bm l.length #[]) :: H)) : DK P N w0 I Kc ops lab ids (i :: ls) S H :=
  DL.keep (X := Nat) (u := fun b => ptr b 0) (H' := fun b => (some b, iobj bm l.length #[]) :: H) (fun _ p hp => List.mem_cons_of_mem _ hp) hi hw hd hN hk (fun ρ hρ w hc => .inl ⟨w.heap.size, w.alloc (iobj bm l.length #[]), by
    simp only [execOp, ho, hρ _ _ hx]
    refine val_run ?_
    unfold Instr.range
    refine (run_of_bind (hm w)).trans ?_
    refine (run_of_bind (run_getObj (hM w hc))).trans ?_
    rfl, hc.alloc _⟩) h
theorem f_nextG {seen : Array Nat} {r bm j : Nat} {x : Operand} (hH : H[j]? = some (some r, iobj bm l.length seen)) (hM : ∀ w, Cls w0 I H w → w.heap[bm]? = some (gobj l)) (ho : o.op = .next x false) (hx : ev S x = some (ptr r 0)) :
    FAct P o w0 I S H (NextG l.length seen) (nextGV l) (nextGH r bm j H) := fun ρ hρ w hc => by
  have hr := hc.own r _ (List.mem_of_getElem? hH)
  have hb := hM w hc
  have hrun : (execOp ρ o).run P w = ((Instr.next (ptr r 0) false o.type).bind fun v => Sem.pure (Next.value v)).run P w := by
    simp only [execOp, ho, hρ _ _ hx]; rfl
  rcases run_next_at (P := P) w o.type r bm l.length l.length seen (gents 0 l).toArray l.length hr hb (fun e he => by
      obtain ⟨i, a, v, h1, rfl⟩ := gents_mem (by simpa using he)
      have := (List.getElem?_eq_some_iff.1 h1).1
      show 0 + i < l.length
      omega) (Nat.le_refl _) with ⟨h0, h1⟩ | ⟨e, he, w1, hw1, h1⟩
  · refine .inl ⟨⟨none, fun i hi => ?_⟩, w, ?_, hc⟩
    · have h2 := gents_get (l := l) (n := 0) (i := i) (a := l[i].1) (v := l[i].2) (by rw [List.getElem?_eq_getElem hi])
      rcases Classical.em (i ∈ seen) with h3 | h3
      · exact h3
      · exfalso
        have h4 : leftOf (gents 0 l).toArray seen = #[] := Array.eq_empty_of_size_eq_zero h0
        have : ({ key := l[i].1, val := l[i].2, born := 0 + i } : MapEntry) ∈ leftOf (gents 0 l).toArray seen := by
          unfold leftOf
          rw [Array.mem_filter]
          exact ⟨by simpa using h2, by simpa using h3⟩
        rw [h4] at this
        simp at this
    · rw [hrun]; exact val_run h1
  · have he' : e ∈ gents 0 l ∧ ¬ e.born ∈ seen := by
      unfold leftOf at he
      rw [Array.toList_filter, List.mem_filter] at he
      exact ⟨by simpa using he.1, by simpa using he.2⟩
    obtain ⟨⟨i, a, v, h2, rfl⟩, h3⟩ := And.intro (gents_mem he'.1) he'.2
    have hlt := (List.getElem?_eq_some_iff.1 h2).1
    simp only [Nat.zero_add] at h3 h1
    have hc1 : Cls w0 I H w1 := by
      rcases hw1 with h | h
      · rw [h]; exact hc
      · rw [h]; exact hc.drew _
    have hv : nextGV l (seen := seen) ⟨some i, hlt, h3⟩ = .tuple #[.bool true, a, v] := by
      unfold nextGV; simp only [h2]
    refine .inl ⟨⟨some i, hlt, h3⟩, _, by rw [hrun, hv]; exact val_run h1, ?_⟩
    have hr1 := hc1.own r _ (List.mem_of_getElem? hH)
    have hlt2 := lt_of_get hr1
    show Cls w0 I (H.set j (some r, iobj bm l.length (seen.push i))) _
    refine hc1.setObj hH rfl rfl rfl (by simp [ChangeMaps.setBlock]) (by simp [ChangeMaps.setBlock, iobj, hlt2]) (fun c hcne => by simp [ChangeMaps.setBlock, Array.getElem?_setIfInBounds, Ne.symm hcne])
theorem f_entryG {seen : Array Nat} {r bm j i : Nat} {e : Value × Value} {x : Operand} (hH : H[j]? = some (some r, iobj bm l.length (seen.push i))) (hM : ∀ w, Cls w0 I H w → w.heap[bm]? = some (gobj l)) (he : l[i]? = some e) (ho : o.op = .entry x) (hx : ev S x = some (ptr r 0)) :
    FQuiet P o w0 I S H (.tuple #[e.1, e.2]) := fun ρ hρ w hc => .inl (by
  have hr := hc.own r _ (List.mem_of_getElem? hH)
  have hb := hM w hc
  simp only [execOp, ho, hρ _ _ hx]
  refine val_run ?_
  have hr' : w.heap[r]? = some (.mapIter (some bm) l.length (seen.push ({ key := e.1, val := e.2, born := 0 + i } : MapEntry).born) l.length) := by
    simpa [iobj] using hr
  exact run_entry_at w r bm l.length seen (gents 0 l).toArray l.length { key := e.1, val := e.2, born := 0 + i } hr' hb (by simpa using gents_get (n := 0) (i := i) (a := e.1) (v := e.2) he) (by
    simp only [gents_born]
    exact List.nodup_range'))
end

/-- All have been seen, each once: they are all. -/
theorem seen_all {n : Nat} {seen : Array Nat} (hn : seen.toList.Nodup) (hlt : ∀ i ∈ seen, i < n) (hall : ∀ i, i < n → i ∈ seen) : seen.toList.Perm (List.range n) := by
  rw [List.perm_ext_iff_of_nodup hn List.nodup_range]
  intro i
  rw [List.mem_range]
  exact ⟨fun h => hlt i (by simpa using h), fun h => by simpa using hall i h⟩
theorem seen_size {n : Nat} {seen : Array Nat} (hn : seen.toList.Nodup) (hlt : ∀ i ∈ seen, i < n) : seen.size ≤ n := by
  have hp : seen.toList.Perm ((List.range n).filter fun i => decide (i ∈ seen)) := by
    rw [List.perm_ext_iff_of_nodup hn (List.nodup_range.filter _)]
    intro i
    rw [List.mem_filter, List.mem_range]
    exact ⟨fun h => ⟨hlt i (by simpa using h), by simpa using h⟩, fun h => by simpa using h.2⟩
  have h1 := hp.length_eq
  have h2 := List.length_filter_le (fun i => decide (i ∈ seen)) (List.range n)
  rw [List.length_range] at h2
  rw [← Array.length_toList]; omega

/-! ### in and out of functions' walks -/
section
variable {P : Program} {f : FuncId} {R : Ending → World → Prop} {N : Nat} {w0 : World} {I : Mem} {k : List Item} {S : Slots} {H : Heap} {c : Code}
theorem T.codeIn {n : Nat} {a : Act} {w : World} (h : c.wpIn (FR none) n P (fun e a' w' => e = .normal ∧ T P f R k a' w') a w) : T P f R (.code c :: k) a w := fun b cs hb hk => by
  let b' : Frame := { b with roundOf := none }
  have hat : ∀ (a : Act) (k : List Item), b'.atR a k = b.at a k := fun a k => rfl
  obtain ⟨e, a', w', ⟨rfl, hT⟩, harr⟩ := h b' k cs rfl trivial (fun d hd => by cases hd)
  obtain ⟨e2, w2, fr, hR, hc, hf, hl⟩ := hT b cs hb hk
  have harr' : StepsIn (Machine.fenced P (FR none)) P (lone (b'.atR a (.code c :: k)) cs w) (lone (b'.atR a' k) cs w') := harr
  exact ⟨e2, w2, fr, hR, hc.of_steps harr'.steps, hf, hl⟩
theorem TT.ofCI (h : CI none P [] N w0 I c (fun e a' w' => e = .normal ∧ T P f R k a' w') S H) : TT P f R N w0 I (.code c :: k) S H := fun a w ha hc => by
  have := h a w ha hc
  rw [wd_nil ha] at this
  exact T.codeIn this
theorem calls_of_TTG {fn : Func} {b : Code} {args : Array Value} {w : World} (hc : Cls w0 I H w) (hf : P.funcs[f]? = some fn) (hb : fn.body = some b) (hN : fn.ntmps = N) (hsz : Nat.ble args.size N = true) (hS : ∀ p ∈ S, args[p.1]? = some p.2)
    (h : TT P f R N w0 I [.code b] S H) : Calls P f args w R := by
  refine calls_of_T hf hb (h _ _ ⟨rfl, ?_, fun i v hi => ?_⟩ hc)
  · have := Nat.le_of_ble_eq_true hsz
    simp; omega
  · have := hS (i, v) (get_mem hi)
    simp only at this ⊢
    rw [Array.getElem?_append_left (lt_of_get this)]; exact this
theorem retR {fn : Func} {rs : List ResultVar} {vs : List Value} {v : Value} (hf : P.funcs[f]? = some fn) (hrs : fn.results = rs.toArray) (hl : rs.length = vs.length)
    (hv : (if h : vs.toArray.size = 1 then vs.toArray[0] else .tuple vs.toArray) = v) (hall : ∀ (i : Nat) (r : ResultVar) (u : Value), rs[i]? = some r → vs[i]? = some u → ResV P N w0 I S H r u) (hR : ∀ w, Cls w0 I H w → R (.returned v) w) :
    TT P f R N w0 I (.code .ret :: k) S H := fun a w ha hc => T.ret (fin_of v hf hrs hl hv hall ha hc (hR w hc))
theorem endR {fn : Func} {rs : List ResultVar} {vs : List Value} {v : Value} (hf : P.funcs[f]? = some fn) (hrs : fn.results = rs.toArray) (hl : rs.length = vs.length)
    (hv : (if h : vs.toArray.size = 1 then vs.toArray[0] else .tuple vs.toArray) = v) (hall : ∀ (i : Nat) (r : ResultVar) (u : Value), rs[i]? = some r → vs[i]? = some u → ResV P N w0 I S H r u) (hR : ∀ w, Cls w0 I H w → R (.returned v) w) :
    TT P f R N w0 I [] S H := fun a w ha hc => T.nil (fin_of v hf hrs hl hv hall ha hc (hR w hc))
theorem TT.less {H' : Heap} (hs : H'.Sublist H) (h : TT P f R N w0 I k S H') : TT P f R N w0 I k S H := fun a w ha hc => h a w ha (hc.fewer hs)
theorem TT.perm {H' : Heap} (hs : H.Perm H') (h : TT P f R N w0 I k S H') : TT P f R N w0 I k S H := fun a w ha hc => h a w ha (hc.perm hs)
end

/-! ### a part of what is owned, as what stays -/
theorem frameI {X : Type} {P : Program} {u : X → Value} {E A : Heap} {E' : X → Heap} {f : FuncId} {args : Array Value} {w0 w : World} {I : Mem} (h : ∀ (I' : Mem), Ext I I' → (∀ b o, (some b, o) ∈ A → I' b = some o) → Cls w0 I' E w → Calls P f args w fun e w' => ∃ x, e = .returned (u x) ∧ Cls w0 I' (E' x) w') (hc : Cls w0 I (E ++ A) w) :
    Calls P f args w fun e w' => ∃ x, e = .returned (u x) ∧ Cls w0 I (E' x ++ A) w' := by
  have hnA : (A.filterMap Prod.fst).Nodup := hc.nodup.sublist ((List.sublist_append_right E A).filterMap _)
  have hA : ∀ b o, (some b, o) ∈ A → addJ I A b = some o := fun b o hm => by
    unfold addJ
    rw [hc.disj b o (List.mem_append_right _ hm)]
    exact inJ_of_mem hnA hm
  refine (h (addJ I A) (Ext.addJ _ _) hA hc.settle).mono fun e w' ⟨x, he, hc'⟩ => ⟨x, he, ?_⟩
  refine ⟨hc'.os, hc'.tape, hc'.output, hc'.size, fun b o e => hc'.imm b o (Ext.addJ _ _ b o e), fun b o hm => ?_, fun b o hm => ?_, ?_⟩
  · rcases List.mem_append.1 hm with hm | hm
    · exact hc'.own b o hm
    · exact hc'.imm b o (hA b o hm)
  · rcases List.mem_append.1 hm with hm | hm
    · have := hc'.disj b o hm
      cases hI : I b with
      | none => rfl
      | some z => rw [Ext.addJ I A b z hI] at this; cases this
    · exact hc.disj b o (List.mem_append_right _ hm)
  · rw [List.filterMap_append, List.nodup_append]
    refine ⟨hc'.nodup, hnA, fun a ha b hb e => ?_⟩
    subst e
    obtain ⟨z, hz⟩ := mem_ids.1 ha
    obtain ⟨y, hy⟩ := mem_ids.1 hb
    have h1 := hc'.disj a z hz
    rw [hA a y hy] at h1; cases h1
end Go.HW
