import Derived.Test.YtfcedjmgddloiaaDoorCwB
import Derived.RangeFuncIn
import Derived.RangeFuncRecord
import Derived.RangeFuncLeaves
namespace Go.Proofs.YtfcedjmgddloiaaDoor
open Go Go.HW Go.RowKit
set_option linter.unusedVariables false
set_option linter.unusedSimpArgs false
abbrev CWm (D : List Deferred) (N : Nat) (w0 : World) (I : Mem) (c : Code) (Q : Exit → Act → World → Prop) (S : Slots) (H : Heap) : Prop := CI Fence.wide 3 Tryd.prog D N w0 I c Q S H
abbrev WWm (D : List Deferred) (N : Nat) (w0 : World) (I : Mem) (ops : Array Oper) (l : List Nat) (Q : Exit → Act → World → Prop) (S : Slots) (H : Heap) : Prop := WI Fence.wide 3 Tryd.prog D N w0 I ops l Q S H
abbrev mark (D : Nat) : List Deferred := [{ target := .collected D, args := #[] }]
section
variable {D : List Deferred} {N : Nat} {S : Slots} {w0 : World} {I : Mem} {H : Heap} {Q : Exit → Act → World → Prop} {ops : Array Oper} {l : List Nat} {i d : Nat} {o : Oper} {v : Value}
theorem opsMW_go (hi : ops[i]? = some o) (hw : Wn ops S o true) (hnd : ∀ c, o.op ≠ .defer c) {a : Act} (ha : AgreeD D N S a) {w : World} (h : o.uponIn Fence.wide 3 Tryd.prog a (wpOpsIn Fence.wide 3 Tryd.prog ops Q l) Q ((execOp a.eval o).run Tryd.prog w)) : wpOpsIn Fence.wide 3 Tryd.prog ops Q (i :: l) a w := by
  unfold wpOpsIn
  rw [hi]
  simp only [show Region.wanted o (yielded ops a.tmps) = _ from hw N { a with defers := [] } ⟨rfl, ha.2.1, ha.2.2⟩, if_true]
  exact ⟨fun f _ => trivial, by rw [Oper.semAt_eq _ _ _ hnd]; exact h⟩
theorem MW.imm (hi : ops[i]? = some o) (hw : Wn ops S o true) (hd : o.dst = some d) (hN : Nat.blt d N = true) (hp : FImm Tryd.prog o I S v) (hnd : ∀ c, o.op ≠ .defer c) (h : WWm D N w0 I ops l Q ((d, v) :: S) H) : WWm D N w0 I ops (i :: l) Q S H := fun a w ha hc =>
  opsMW_go hi hw hnd ha (by rw [hp _ ha.val w hc.imm]; show wpOpsIn _ _ _ _ _ _ _ _; rw [hd]; exact h _ _ (ha.put (by simpa [Nat.blt_eq] using hN) v) hc)
theorem MW.pure (hi : ops[i]? = some o) (hw : Wn ops S o true) (hd : o.dst = some d) (hN : Nat.blt d N = true) (hp : FPure Tryd.prog o S v) (hnd : ∀ c, o.op ≠ .defer c) (h : WWm D N w0 I ops l Q ((d, v) :: S) H) : WWm D N w0 I ops (i :: l) Q S H :=
  MW.imm hi hw hd hN (fun ρ hρ w _ => hp ρ hρ w) hnd h
theorem MW.not (hi : ops[i]? = some o) (hw : Wn ops S o false) (hd : o.dst = some d) (hN : Nat.blt d N = true) (h : WWm D N w0 I ops l Q ((d, undef) :: S) H) : WWm D N w0 I ops (i :: l) Q S H := fun a w ha hc => by
  show wpOpsIn _ _ _ _ _ _ _ _
  unfold wpOpsIn
  rw [hi]
  simp only [show Region.wanted o (yielded ops a.tmps) = _ from hw N { a with defers := [] } ⟨rfl, ha.2.1, ha.2.2⟩, Bool.false_eq_true, if_false]
  exact ⟨fun f _ => trivial, by rw [hd]; exact h _ _ (ha.put (by simpa [Nat.blt_eq] using hN) undef) hc⟩
theorem MW.quiet (hi : ops[i]? = some o) (hw : Wn ops S o true) (hd : o.dst = some d) (hN : Nat.blt d N = true) (hp : FQuiet Tryd.prog o w0 I S H v) (hnd : ∀ c, o.op ≠ .defer c) (h : WWm D N w0 I ops l Q ((d, v) :: S) H) : WWm D N w0 I ops (i :: l) Q S H := fun a w ha hc =>
  opsMW_go hi hw hnd ha (by
    rcases hp _ ha.val w hc with hq | ⟨f, args, hq, hcalls⟩
    · rw [hq]; show wpOpsIn _ _ _ _ _ _ _ _; rw [hd]; exact h _ _ (ha.put (by simpa [Nat.blt_eq] using hN) v) hc
    · rw [hq, Oper.uponIn_enter]
      refine ⟨fun hx => (by cases hx), (callsIn_wide.2 hcalls).mono fun e w' ⟨he, hb⟩ => ?_⟩
      subst he
      show wpOpsIn _ _ _ _ _ _ _ _
      rw [hd]
      exact h _ _ (ha.put (by simpa [Nat.blt_eq] using hN) v) (hc.below hb))
theorem MW.new {ob : Obj} {mk : Nat → Value} (hi : ops[i]? = some o) (hw : Wn ops S o true) (hd : o.dst = some d) (hN : Nat.blt d N = true) (hp : FNew Tryd.prog o S ob mk) (hnd : ∀ c, o.op ≠ .defer c)
    (h : ∀ b, w0.heap.size ≤ b → WWm D N w0 I ops l Q ((d, mk b) :: S) ((some b, ob) :: H)) : WWm D N w0 I ops (i :: l) Q S H := fun a w ha hc =>
  opsMW_go hi hw hnd ha (by rw [hp _ ha.val w]; show wpOpsIn _ _ _ _ _ _ _ _; rw [hd]; exact h _ hc.size _ _ (ha.put (by simpa [Nat.blt_eq] using hN) _) (hc.alloc ob))
theorem MW.put {H' : Heap} (hi : ops[i]? = some o) (hw : Wn ops S o true) (hd : o.dst = none) (hp : FPut Tryd.prog o w0 I S H H') (hnd : ∀ c, o.op ≠ .defer c) (h : WWm D N w0 I ops l Q S H') : WWm D N w0 I ops (i :: l) Q S H := fun a w ha hc => by
  obtain ⟨w', hr, hc'⟩ := hp _ ha.val w hc
  exact opsMW_go hi hw hnd ha (by rw [hr]; show wpOpsIn _ _ _ _ _ _ _ _; rw [hd]; exact h _ _ ha hc')
theorem MW.act {X : Type} {u : X → Value} {H' : X → Heap} (hi : ops[i]? = some o) (hw : Wn ops S o true) (hd : o.dst = some d) (hN : Nat.blt d N = true) (hp : FAct Tryd.prog o w0 I S H X u H') (hnd : ∀ c, o.op ≠ .defer c)
    (h : ∀ x, WWm D N w0 I ops l Q ((d, u x) :: S) (H' x)) : WWm D N w0 I ops (i :: l) Q S H := fun a w ha hc =>
  opsMW_go hi hw hnd ha (by
    rcases hp _ ha.val w hc with ⟨x, w', hq, hc'⟩ | ⟨x, w', hq, hv, hc'⟩ | ⟨f, args, w1, hq, hcalls⟩
    · rw [hq]; show wpOpsIn _ _ _ _ _ _ _ _; rw [hd]; exact h x _ _ (ha.put (by simpa [Nat.blt_eq] using hN) _) hc'
    · rw [hq]; show wpOpsIn _ _ _ _ _ _ _ _; rw [hd]; have := h x _ _ (ha.put (by simpa [Nat.blt_eq] using hN) (u x)) hc'; rw [hv] at this; exact this
    · rw [hq, Oper.uponIn_enter]
      refine ⟨fun hx => (by cases hx), (callsIn_wide.2 hcalls).mono fun e w' ⟨x, he, hc'⟩ => ?_⟩
      subst he
      show wpOpsIn _ _ _ _ _ _ _ _
      rw [hd]
      exact h x _ _ (ha.put (by simpa [Nat.blt_eq] using hN) _) hc')
theorem MW.doneQ {y : Code} {Q2 : Exit → Act → World → Prop} (hQ : Q .normal = y.wpIn Fence.wide 3 Tryd.prog Q2) (h : CWm D N w0 I y Q2 S H) : WWm D N w0 I ops [] Q S H := fun a w ha hc => by show Q .normal a w; rw [hQ]; exact h a w ha hc
theorem MC.skipQ {y : Code} {Q2 : Exit → Act → World → Prop} (hQ : Q .normal = y.wpIn Fence.wide 3 Tryd.prog Q2) (h : CWm D N w0 I y Q2 S H) : CWm D N w0 I .skip Q S H := fun a w ha hc => wpIn_skip (by rw [hQ]; exact h a w ha hc)
theorem MC.region {id m : Nat} {ops : Array Oper} (hm : ops.size = m) (h : WWm D N w0 I ops (List.range m) Q S H) : CWm D N w0 I (.region id ops false) Q S H := CI.region hm h
theorem MC.seq {x y : Code} (h : CWm D N w0 I x (Exit.then (y.wpIn Fence.wide 3 Tryd.prog Q) Q) S H) : CWm D N w0 I (.seq x y) Q S H := CI.seq h
theorem MC.block {id : Nat} {c : Code} (h : CWm D N w0 I c (Exit.inBlock id Q) S H) : CWm D N w0 I (.block id c) Q S H := fun a w ha hc => wpIn_block (h a w ha hc)
theorem MC.cond_true {c : Operand} {x y : Code} {p : Bool} (hc : ev S c = some (.bool p)) (hp : p = true) (h : CWm D N w0 I x Q S H) : CWm D N w0 I (.cond c x y) Q S H := fun a w ha hcl => wpIn_cond_true (by rw [ha.val _ _ hc, hp]) (h a w ha hcl)
theorem MC.cond_false {c : Operand} {x y : Code} {p : Bool} (hc : ev S c = some (.bool p)) (hp : p = false) (h : CWm D N w0 I y Q S H) : CWm D N w0 I (.cond c x y) Q S H := fun a w ha hcl => wpIn_cond_false (by rw [ha.val _ _ hc, hp]) (h a w ha hcl)
theorem MW.permP (is : List Nat) (h : is.isPerm (List.range H.length) = true) (hy : WWm D N w0 I ops l Q S (pick is H)) : WWm D N w0 I ops l Q S H := fun a w ha hc => hy a w ha (hc.perm (pick_perm h).symm)
theorem MW.heapIs {N : Nat} {S : Slots} {w0 : World} {I : Mem} {H H2 : Heap} {Q : Exit → Act → World → Prop} {ops : Array Oper} {l : List Nat} (hH : H = H2) (h : WWm D N w0 I ops l Q S H2) : WWm D N w0 I ops l Q S H := by subst hH; exact h
theorem MW.cP {X : Type} {u : X → Value} {E R : Heap} {E' : X → Heap} {cl : Call} {fo : Operand} {g : FuncId} {caps args all : Array Value} (hi : ops[i]? = some o) (hw : Wn ops S o true) (hd : o.dst = some d) (hN : Nat.blt d N = true) (is : List Nat) (hp : is.isPerm (List.range H.length) = true) (hpk : HW.pick is H = E ++ R) (hc : Turn I g all E u E') (he : all = args ++ caps) (hbody : ∀ w, (callFunc g all).run Tryd.prog w = .ok (.enter g all) w) (ho : o.op = .call cl) (hcal : cl.callee = .value fo) (hf : ev S fo = some (.func (.func g) #[] caps)) (hargs : ∀ ρ, Val S ρ → cl.args.map ρ = args)
    (h : ∀ x, WWm D N w0 I ops l Q ((d, u x) :: S) (E' x ++ R)) : WWm D N w0 I ops (i :: l) Q S H :=
  MW.act hi hw hd hN (f_callP (turn_perm hp hpk hc) he hbody ho hcal hf hargs) (fun c hx => by rw [ho] at hx; cases hx) h
theorem MC.exitQ {id : Nat} {y : Code} {Q2 : Exit → Act → World → Prop} (hQ : Q (.exit id) = y.wpIn Fence.wide 3 Tryd.prog Q2) (h : CWm D N w0 I y Q2 S H) : CWm D N w0 I (.exit id) Q S H := fun a w ha hc => wpIn_exit (by rw [hQ]; exact h a w ha hc)

theorem cls_put {w : World} {b : Nat} {o o' : Obj} (hc : Cls w0 I ((some b, o) :: H) w) : Cls w0 I H (w.putObj b o') := by
  have hb := hc.own b o List.mem_cons_self
  have h2 : Cls w0 I (((some b, o) :: H).set 0 (some b, o')) (w.putObj b o') := hc.setObj (i := 0) rfl rfl rfl rfl World.putObj_size (World.putObj_heap_same (lt_of_get hb)) (fun c hne => World.putObj_heap_other hne)
  exact h2.fewer (List.sublist_cons_self _ _)
/-- a range over a function that asks for no round -/
theorem C.rangeNil {X : Type} {u : X → Value} {E R : Heap} {E' : X → Heap} {g : Operand} {ps : Array Tmp} {assign body y : Code} {Q2 : Exit → Act → World → Prop} {gf : Nat} {lb : Array Value} (is : List Nat) (hp : is.isPerm (List.range H.length) = true) (hpk : HW.pick is H = E ++ R) (hQ : Q .normal = y.wpIn Fence.wide 3 Tryd.prog Q2) (hg : ev S g = some (.func (.func gf) #[] lb)) (eg : ∀ args w, (callFunc gf args).run Tryd.prog w = .ok (.enter gf args) w)
    (hc : ∀ l, Turn I gf (#[.func (.yield l) #[] #[]] ++ lb) E u E') (h : ∀ (D : Nat) x, CWm (mark D) N w0 I y Q2 S (E' x ++ R ++ [(some D, .deferred (some []))])) : CW N w0 I (.rangeFunc g ps assign body) Q S H := fun a w ha hcl => by
  refine wpIn_rangeFunc fun fn hfn => ?_
  obtain ⟨rec, hrec⟩ : ∃ rec : Loop, rec = { state := .ready, pending := none, fn, tmps := a.tmps, params := ps, assign, body, defers := w.heap.size } := ⟨_, rfl⟩
  obtain ⟨W1, hW1⟩ : ∃ W1, (w.alloc (.deferred (some []))).alloc (.loop rec) = W1 := ⟨_, rfl⟩
  have hC1 : Cls w0 I ((some (w.heap.size + 1), .loop rec) :: (some w.heap.size, .deferred (some [])) :: H) W1 := by
    rw [← hW1]
    have := (hcl.alloc (.deferred (some []))).alloc (.loop rec)
    rwa [World.size_alloc] at this
  have hP : ((some (w.heap.size + 1), Obj.loop rec) :: (some w.heap.size, Obj.deferred (some [])) :: H).Perm (E ++ (R ++ [(some (w.heap.size + 1), Obj.loop rec), (some w.heap.size, Obj.deferred (some []))])) := by
    have h1 : H.Perm (E ++ R) := by rw [← hpk]; exact (pick_perm hp).symm
    rw [← List.append_assoc]
    exact (((h1.cons _).cons _)).trans (List.perm_append_comm (l₁ := [_, _]))
  refine ⟨w.heap.size + 1, mark w.heap.size, W1, { target := .fn (.func gf) lb, args := #[.func (.yield (w.heap.size + 1)) #[] #[]] }, W1, gf, #[.func (.yield (w.heap.size + 1)) #[] #[]] ++ lb, W1, ?_, ?_, fun _ _ => trivial, ?_, fun _ => by decide, ?_⟩
  · rw [← hW1, hrec]; exact run_enterLoop_outer _ _ _ _ _
  · simp only [resolve, ha.val _ _ hg]
    simp [go_sem]
  · simp [invoke, go_sem, eg]
  · refine (callsIn_wide.2 ((hc (w.heap.size + 1)).at w0 W1 (hC1.perm hP))).mono fun e w2 ⟨x, he, hc2⟩ => ?_
    subst he
    have hc3 : Cls w0 I ((some (w.heap.size + 1), Obj.loop rec) :: (E' x ++ R ++ [(some w.heap.size, Obj.deferred (some []))])) w2 := hc2.perm (by
      show (E' x ++ (R ++ [(some (w.heap.size + 1), Obj.loop rec), (some w.heap.size, Obj.deferred (some []))])).Perm _
      rw [← List.append_assoc]
      exact List.perm_middle)
    have hl := hc3.own _ _ List.mem_cons_self
    refine ⟨none, _, by rw [run_endLoop hl (by rw [hrec]; simp)]; rw [hrec], ?_⟩
    show Q .normal _ _
    rw [hQ]
    refine h w.heap.size x _ _ ⟨?_, ha.2.1, ha.2.2⟩ (cls_put hc3)
    show mark w.heap.size ++ a.defers = _
    rw [ha.1]
    rfl
theorem calls_of_CWm {f : FuncId} {fn : Func} {c : Code} {args : Array Value} {w : World} {R : Ending → World → Prop} (hf : Tryd.prog.funcs[f]? = some fn) (hb : fn.body = some c) (hN : fn.ntmps = N) (hsz : Nat.ble args.size N = true) (hS : ∀ p ∈ S, args[p.1]? = some p.2)
    (hc : Cls w0 I H w) (h : CW N w0 I c (bodyPostM Fence.wide 3 Tryd.prog fn R) S H) : Calls Tryd.prog f args w R := by
  refine callsIn_wide.1 (callsIn_of_wp_marks hf hb trivial (h _ _ ⟨rfl, ?_, fun i v hi => ?_⟩ hc) rfl)
  · have := Nat.le_of_ble_eq_true hsz
    simp; omega
  · have := hS (i, v) (get_mem hi)
    simp only at this ⊢
    rw [Array.getElem?_append_left (lt_of_get this)]; exact this
theorem MC.ret {f : FuncId} {fn : Func} {R : Ending → World → Prop} {rs : List ResultVar} {vs : List Value} {D : Nat} {G : Heap} (hQ : Q .ret = bodyPostM Fence.wide 3 Tryd.prog fn R .ret) (hf : Tryd.prog.funcs[f]? = some fn) (hrs : fn.results = rs.toArray) (hl : rs.length = vs.length)
    (hv : (if h : vs.toArray.size = 1 then vs.toArray[0] else .tuple vs.toArray) = v) (hall : ∀ (i : Nat) (r : ResultVar) (u : Value), rs[i]? = some r → vs[i]? = some u → ResV Tryd.prog N w0 I S G r u) (is : List Nat) (hp : is.isPerm (List.range H.length) = true) (hpk : HW.pick is H = (some D, .deferred (some [])) :: G) (hR : ∀ w, Cls w0 I G w → R (.returned v) w) :
    CWm (mark D) N w0 I .ret Q S H := fun a w ha hc => by
  refine wpIn_ret ?_
  rw [hQ]
  have hc1 : Cls w0 I ((some D, .deferred (some [])) :: G) w := by rw [← hpk]; exact hc.perm (pick_perm hp).symm
  have hKD := hc1.own _ _ List.mem_cons_self
  have hc2 : Cls w0 I G (w.putObj D (.deferred none)) := cls_put hc1
  have hag : Agree N S { tmps := a.tmps, defers := [] } := ⟨rfl, ha.2.1, ha.2.2⟩
  obtain ⟨_, fn', v', hf', hr', hR'⟩ := fin_of (P := Tryd.prog) (f := f) (N := N) (R := R) v hf hrs hl hv hall hag hc2 (hR _ hc2)
  rw [hf] at hf'; cases hf'
  show LeavesInM _ _ _ _ a.tmps _ a.defers _ _
  rw [ha.1]
  exact ⟨by simp, .inl ⟨_, _, rfl, run_takeDeferred hKD, v', hr', hR'⟩⟩
end
end Go.Proofs.YtfcedjmgddloiaaDoor
