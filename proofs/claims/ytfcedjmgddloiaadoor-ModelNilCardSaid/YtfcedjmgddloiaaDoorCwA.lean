import Derived.Test.YtfcedjmgddloiaaDoorHw19
import Derived.Test.YtfcedjmgddloiaaDoorProg
import Derived.RangeFuncNested
import Derived.RangeFuncLeaves
import Derived.RangeFuncBound
import Derived.WalkKit
import Derived.Handy
namespace Go.Proofs.YtfcedjmgddloiaaDoor
open Go Go.HW Go.RowKit
set_option linter.unusedVariables false
set_option linter.unusedSimpArgs false

/-! ### the same rules, where the body of a loop over a function may stand -/
def AgreeD (D : List Deferred) (N : Nat) (S : Slots) (a : Act) : Prop := a.defers = D ∧ a.tmps.size = N ∧ ∀ i v, HW.get S i = some v → a.tmps[i]? = some v
section
variable {D : List Deferred} {N : Nat} {S : Slots} {a : Act} {F : Fence} {n : Nat} {P : Program} {w0 : World} {I : Mem} {H : Heap} {Q : Exit → Act → World → Prop} {ops : Array Oper} {l : List Nat} {i d : Nat} {o : Oper} {v : Value}
theorem AgreeD.val (h : AgreeD D N S a) : Val S a.eval := fun x v hx => by
  cases x with
  | tmp t => have := h.2.2 t v hx; simp [Act.eval, this]
  | const u => exact Option.some.inj hx
  | global g => exact Option.some.inj hx
  | func g => exact Option.some.inj hx
theorem AgreeD.put (h : AgreeD D N S a) {d : Nat} (hd : d < N) (v : Value) : AgreeD D N ((d, v) :: S) (a.put (some d) v) := by
  obtain ⟨h1, h2, h3⟩ := h
  refine ⟨h1, by simp [Act.put, h2], fun i u hi => ?_⟩
  simp only [HW.get] at hi
  simp only [Act.put]
  split at hi
  · rename_i hb
    have : d = i := Nat.eq_of_beq_eq_true hb
    subst this
    cases hi
    rw [Array.getElem?_setIfInBounds_self_of_lt (by omega)]
  · rename_i hb
    have : d ≠ i := Nat.ne_of_beq_eq_false hb
    rw [Array.getElem?_setIfInBounds_ne this]
    exact h3 i u hi

structure Wide (F : Fence) : Prop where
  fn : ∀ f, F.fn f
  depth : F.depth = none
theorem wide_wide : Wide Fence.wide := ⟨fun _ => trivial, rfl⟩
theorem Wide.round (h : Wide F) (l : Nat) : Wide (F.inRound l) := ⟨h.fn, h.depth⟩

/-- A code, from slots and a class of worlds. -/
def CI (F : Fence) (n : Nat) (P : Program) (D : List Deferred) (N : Nat) (w0 : World) (I : Mem) (c : Code) (Q : Exit → Act → World → Prop) (S : Slots) (H : Heap) : Prop :=
  ∀ a w, AgreeD D N S a → Cls w0 I H w → c.wpIn F n P Q a w
def WI (F : Fence) (n : Nat) (P : Program) (D : List Deferred) (N : Nat) (w0 : World) (I : Mem) (ops : Array Oper) (l : List Nat) (Q : Exit → Act → World → Prop) (S : Slots) (H : Heap) : Prop :=
  ∀ a w, AgreeD D N S a → Cls w0 I H w → wpOpsIn F n P ops Q l a w
theorem opsIn_go (hF : Wide F) (hi : ops[i]? = some o) (hg : o.guard = none) (hnd : ∀ c, o.op ≠ .defer c) {w : World} (h : o.uponIn F n P a (wpOpsIn F n P ops Q l) Q ((execOp a.eval o).run P w)) : wpOpsIn F n P ops Q (i :: l) a w := by
  unfold wpOpsIn
  rw [hi]
  simp only [Region.wanted, hg, if_true]
  exact ⟨fun f _ => hF.fn f, by rw [Oper.semAt_eq _ _ _ hnd]; exact h⟩
theorem CI.region {id m : Nat} {ops : Array Oper} (hm : ops.size = m) (h : WI F n P D N w0 I ops (List.range m) Q S H) : CI F n P D N w0 I (.region id ops false) Q S H := fun a w ha hc =>
  wpIn_region (by rw [hm]; exact h a w ha hc)
theorem CI.seq {x y : Code} (h : CI F n P D N w0 I x (Exit.then (y.wpIn F n P Q) Q) S H) : CI F n P D N w0 I (.seq x y) Q S H := fun a w ha hc => wpIn_seq (h a w ha hc)
theorem WI.nil {K : Act → World → Prop} (h : ∀ a w, AgreeD D N S a → Cls w0 I H w → K a w) : WI F n P D N w0 I ops [] (Exit.then K Q) S H := fun a w ha hc => h a w ha hc
theorem WI.nil' (h : ∀ a w, AgreeD D N S a → Cls w0 I H w → Q .normal a w) : WI F n P D N w0 I ops [] Q S H := fun a w ha hc => h a w ha hc
theorem WI.imm (hF : Wide F) (hi : ops[i]? = some o) (hg : o.guard = none) (hnd : ∀ c, o.op ≠ .defer c) (hd : o.dst = some d) (hN : Nat.blt d N = true) (hp : FImm P o I S v) (h : WI F n P D N w0 I ops l Q ((d, v) :: S) H) : WI F n P D N w0 I ops (i :: l) Q S H := fun a w ha hc =>
  opsIn_go hF hi hg hnd (by rw [hp _ ha.val w hc.imm]; show wpOpsIn _ _ _ _ _ _ _ _; rw [hd]; exact h _ _ (ha.put (by simpa [Nat.blt_eq] using hN) v) hc)
theorem WI.pure (hF : Wide F) (hi : ops[i]? = some o) (hg : o.guard = none) (hnd : ∀ c, o.op ≠ .defer c) (hd : o.dst = some d) (hN : Nat.blt d N = true) (hp : FPure P o S v) (h : WI F n P D N w0 I ops l Q ((d, v) :: S) H) : WI F n P D N w0 I ops (i :: l) Q S H :=
  WI.imm hF hi hg hnd hd hN (fun ρ hρ w _ => hp ρ hρ w) h
theorem WI.new {ob : Obj} {mk : Nat → Value} (hF : Wide F) (hi : ops[i]? = some o) (hg : o.guard = none) (hnd : ∀ c, o.op ≠ .defer c) (hd : o.dst = some d) (hN : Nat.blt d N = true) (hp : FNew P o S ob mk)
    (h : ∀ b, w0.heap.size ≤ b → WI F n P D N w0 I ops l Q ((d, mk b) :: S) ((some b, ob) :: H)) : WI F n P D N w0 I ops (i :: l) Q S H := fun a w ha hc =>
  opsIn_go hF hi hg hnd (by rw [hp _ ha.val w]; show wpOpsIn _ _ _ _ _ _ _ _; rw [hd]; exact h _ hc.size _ _ (ha.put (by simpa [Nat.blt_eq] using hN) _) (hc.alloc ob))
theorem WI.put {H' : Heap} (hF : Wide F) (hi : ops[i]? = some o) (hg : o.guard = none) (hnd : ∀ c, o.op ≠ .defer c) (hd : o.dst = none) (hp : FPut P o w0 I S H H') (h : WI F n P D N w0 I ops l Q S H') : WI F n P D N w0 I ops (i :: l) Q S H := fun a w ha hc => by
  obtain ⟨w', hr, hc'⟩ := hp _ ha.val w hc
  exact opsIn_go hF hi hg hnd (by rw [hr]; show wpOpsIn _ _ _ _ _ _ _ _; rw [hd]; exact h _ _ ha hc')
/-- .. a call of a function -/
theorem WI.call {cl : Call} {fo : Operand} {g : FuncId} {args : Array Value} {H' : Value → Heap} {p : Value → Prop} (hF : Wide F) (hi : ops[i]? = some o) (hg : o.guard = none) (hd : o.dst = some d) (hN : Nat.blt d N = true)
    (ho : o.op = .call cl) (hcal : cl.callee = .value fo) (hf : ev S fo = some (.func (.func g) #[] #[])) (hargs : ∀ ρ, Val S ρ → cl.args.map ρ = args) (hbody : ∀ w, (callFunc g args).run P w = .ok (.enter g args) w)
    (hc : ∀ w, Cls w0 I H w → CallsIn F (n - 1) P g args w fun e w' => ∃ v, e = .returned v ∧ p v ∧ Cls w0 I (H' v) w') (h : ∀ v, p v → WI F n P D N w0 I ops l Q ((d, v) :: S) (H' v)) : WI F n P D N w0 I ops (i :: l) Q S H := fun a w ha hcl =>
  opsIn_go hF hi hg (fun c hx => by rw [ho] at hx; cases hx) (by
    have e : (execOp a.eval o).run P w = .ok (.enter g args) w := by
      simp only [execOp, ho, resolve, hcal, hargs _ ha.val]
      rw [ha.val _ _ hf]
      show (callFunc g (#[] ++ args ++ #[])).run P w = _
      simpa using hbody w
    rw [e, Oper.uponIn_enter]
    refine ⟨fun hx => (by rw [hF.depth] at hx; cases hx), (hc w hcl).mono fun en w' ⟨v, he, hv, hc'⟩ => ?_⟩
    subst he
    show wpOpsIn _ _ _ _ _ _ _ _
    rw [hd]
    exact h v hv _ _ (ha.put (by simpa [Nat.blt_eq] using hN) v) hc')
end


/-- a function's body, walked -/
theorem callsIn_of_CI {F : Fence} {n N : Nat} {P : Program} {f : FuncId} {fn : Func} {c : Code} {args : Array Value} {w w0 : World} {I : Mem} {H : Heap} {S : Slots} {R : Ending → World → Prop} (hF : Wide F) (hro : F.round = none) (hf : P.funcs[f]? = some fn) (hb : fn.body = some c) (hN : fn.ntmps = N) (hsz : Nat.ble args.size N = true) (hS : ∀ p ∈ S, args[p.1]? = some p.2)
    (hc : Cls w0 I H w) (h : CI F n P [] N w0 I c (bodyPost P fn R) S H) : CallsIn F n P f args w R := by
  refine callsIn_of_wp hf hb (hF.fn _) (h _ _ ⟨rfl, ?_, fun i v hi => ?_⟩ hc) hro
  · have := Nat.le_of_ble_eq_true hsz
    simp; omega
  · have := hS (i, v) (get_mem hi)
    simp only at this ⊢
    rw [Array.getElem?_append_left (lt_of_get this)]; exact this

section
variable {D : List Deferred} {N : Nat} {S : Slots}
theorem AgreeD.sub {S' : Slots} {a : Act} (h : AgreeD D N S a) (hs : Sub S' S) : AgreeD D N S' a := ⟨h.1, h.2.1, fun i v hi => h.2.2 i v (hs (i, v) (get_mem hi))⟩
end

theorem mixedT : Tryd.prog.follows .mixedOrders = true := by kernel_rfl

/-! #### a region that draws its order, with calls that are deferred -/
section
variable {D : List Deferred} {N : Nat} {S : Slots} {P : Program} {w0 : World} {I : Mem} {H : Heap} {ops : Array Oper} {lab : Lab} {ids : Nat → Option Nat} {l : List Nat} {i d : Nat} {o : Oper} {v : Value} {Q : Act → Heap → Prop}
def DE (P : Program) (D : List Deferred) (N : Nat) (w0 : World) (I : Mem) (ops : Array Oper) (lab : Lab) (ids : Nat → Option Nat) (Q : Act → Heap → Prop) (l : List Nat) (S : Slots) (H : Heap) : Prop := ∀ a, AgreeD D N S a → listD P ops w0 I lab ids Q l a H
theorem DE.imm (hi : ops[i]? = some o) (hg : o.guard = none) (hd : o.dst = some d) (hN : Nat.blt d N = true) (hk : (lab i).1 = .pure) (hp : FImm P o I S v) (h : DE P D N w0 I ops lab ids Q l ((d, v) :: S) H) : DE P D N w0 I ops lab ids Q (i :: l) S H := fun a ha => by
  show stepD P ops w0 I lab ids i _ a H
  unfold stepD
  rw [hi]
  intro _
  exact ⟨.val v, .inl ⟨by simp [Region.wanted, hg], .inl ⟨hk, hp _ ha.val⟩⟩, by show listD _ _ _ _ _ _ _ _ _ _; rw [hd]; exact h _ (ha.put (by simpa [Nat.blt_eq] using hN) v)⟩
theorem DE.put {H' : Heap} (hi : ops[i]? = some o) (hg : o.guard = none) (hd : o.dst = none) (hk : (lab i).1 = .store) (hn : (lab i).2 = none) (hp : FPut P o w0 I S H H') (h : DE P D N w0 I ops lab ids Q l S H') : DE P D N w0 I ops lab ids Q (i :: l) S H := fun a ha => by
  show stepD P ops w0 I lab ids i _ a H
  unfold stepD
  rw [hi]
  intro _
  exact ⟨.put H', .inl ⟨by simp [Region.wanted, hg], hk, fun w hc => hp _ ha.val w hc, keep_none hn⟩, by show listD _ _ _ _ _ _ _ _ _ _; rw [hd]; exact h _ (show AgreeD D N S (a.put none undef) from ha)⟩
end


/-! ### rules for walks by hand: the fence is the wide one, nothing is deferred -/
abbrev CW (N : Nat) (w0 : World) (I : Mem) (c : Code) (Q : Exit → Act → World → Prop) (S : Slots) (H : Heap) : Prop := CI Fence.wide 3 Tryd.prog [] N w0 I c Q S H
abbrev WW (N : Nat) (w0 : World) (I : Mem) (ops : Array Oper) (l : List Nat) (Q : Exit → Act → World → Prop) (S : Slots) (H : Heap) : Prop := WI Fence.wide 3 Tryd.prog [] N w0 I ops l Q S H
section
variable {N : Nat} {S : Slots} {w0 : World} {I : Mem} {H : Heap} {Q : Exit → Act → World → Prop} {ops : Array Oper} {l : List Nat} {i d : Nat} {o : Oper} {v : Value} {P : Program}
theorem opsW_go (hi : ops[i]? = some o) (hw : Wn ops S o true) (hnd : ∀ c, o.op ≠ .defer c) {a : Act} (ha : AgreeD [] N S a) {w : World} (h : o.uponIn Fence.wide 3 Tryd.prog a (wpOpsIn Fence.wide 3 Tryd.prog ops Q l) Q ((execOp a.eval o).run Tryd.prog w)) : wpOpsIn Fence.wide 3 Tryd.prog ops Q (i :: l) a w := by
  unfold wpOpsIn
  rw [hi]
  simp only [hw N a (show Agree N S a from ha), if_true]
  exact ⟨fun f _ => trivial, by rw [Oper.semAt_eq _ _ _ hnd]; exact h⟩
theorem W.imm (hi : ops[i]? = some o) (hw : Wn ops S o true) (hd : o.dst = some d) (hN : Nat.blt d N = true) (hp : FImm Tryd.prog o I S v) (hnd : ∀ c, o.op ≠ .defer c) (h : WW N w0 I ops l Q ((d, v) :: S) H) : WW N w0 I ops (i :: l) Q S H := fun a w ha hc =>
  opsW_go hi hw hnd ha (by rw [hp _ ha.val w hc.imm]; show wpOpsIn _ _ _ _ _ _ _ _; rw [hd]; exact h _ _ (ha.put (by simpa [Nat.blt_eq] using hN) v) hc)
theorem W.pure (hi : ops[i]? = some o) (hw : Wn ops S o true) (hd : o.dst = some d) (hN : Nat.blt d N = true) (hp : FPure Tryd.prog o S v) (hnd : ∀ c, o.op ≠ .defer c) (h : WW N w0 I ops l Q ((d, v) :: S) H) : WW N w0 I ops (i :: l) Q S H :=
  W.imm hi hw hd hN (fun ρ hρ w _ => hp ρ hρ w) hnd h
theorem W.not (hi : ops[i]? = some o) (hw : Wn ops S o false) (hd : o.dst = some d) (hN : Nat.blt d N = true) (h : WW N w0 I ops l Q ((d, undef) :: S) H) : WW N w0 I ops (i :: l) Q S H := fun a w ha hc => by
  show wpOpsIn _ _ _ _ _ _ _ _
  unfold wpOpsIn
  rw [hi]
  simp only [hw N a (show Agree N S a from ha), Bool.false_eq_true, if_false]
  exact ⟨fun f _ => trivial, by rw [hd]; exact h _ _ (ha.put (by simpa [Nat.blt_eq] using hN) undef) hc⟩
theorem W.quiet (hi : ops[i]? = some o) (hw : Wn ops S o true) (hd : o.dst = some d) (hN : Nat.blt d N = true) (hp : FQuiet Tryd.prog o w0 I S H v) (hnd : ∀ c, o.op ≠ .defer c) (h : WW N w0 I ops l Q ((d, v) :: S) H) : WW N w0 I ops (i :: l) Q S H := fun a w ha hc =>
  opsW_go hi hw hnd ha (by
    rcases hp _ ha.val w hc with hq | ⟨f, args, hq, hcalls⟩
    · rw [hq]; show wpOpsIn _ _ _ _ _ _ _ _; rw [hd]; exact h _ _ (ha.put (by simpa [Nat.blt_eq] using hN) v) hc
    · rw [hq, Oper.uponIn_enter]
      refine ⟨fun hx => (by cases hx), (callsIn_wide.2 hcalls).mono fun e w' ⟨he, hb⟩ => ?_⟩
      subst he
      show wpOpsIn _ _ _ _ _ _ _ _
      rw [hd]
      exact h _ _ (ha.put (by simpa [Nat.blt_eq] using hN) v) (hc.below hb))
theorem W.new {ob : Obj} {mk : Nat → Value} (hi : ops[i]? = some o) (hw : Wn ops S o true) (hd : o.dst = some d) (hN : Nat.blt d N = true) (hp : FNew Tryd.prog o S ob mk) (hnd : ∀ c, o.op ≠ .defer c)
    (h : ∀ b, w0.heap.size ≤ b → WW N w0 I ops l Q ((d, mk b) :: S) ((some b, ob) :: H)) : WW N w0 I ops (i :: l) Q S H := fun a w ha hc =>
  opsW_go hi hw hnd ha (by rw [hp _ ha.val w]; show wpOpsIn _ _ _ _ _ _ _ _; rw [hd]; exact h _ hc.size _ _ (ha.put (by simpa [Nat.blt_eq] using hN) _) (hc.alloc ob))
theorem W.put {H' : Heap} (hi : ops[i]? = some o) (hw : Wn ops S o true) (hd : o.dst = none) (hp : FPut Tryd.prog o w0 I S H H') (hnd : ∀ c, o.op ≠ .defer c) (h : WW N w0 I ops l Q S H') : WW N w0 I ops (i :: l) Q S H := fun a w ha hc => by
  obtain ⟨w', hr, hc'⟩ := hp _ ha.val w hc
  exact opsW_go hi hw hnd ha (by rw [hr]; show wpOpsIn _ _ _ _ _ _ _ _; rw [hd]; exact h _ _ ha hc')
theorem W.act {X : Type} {u : X → Value} {H' : X → Heap} (hi : ops[i]? = some o) (hw : Wn ops S o true) (hd : o.dst = some d) (hN : Nat.blt d N = true) (hp : FAct Tryd.prog o w0 I S H X u H') (hnd : ∀ c, o.op ≠ .defer c)
    (h : ∀ x, WW N w0 I ops l Q ((d, u x) :: S) (H' x)) : WW N w0 I ops (i :: l) Q S H := fun a w ha hc =>
  opsW_go hi hw hnd ha (by
    rcases hp _ ha.val w hc with ⟨x, w', hq, hc'⟩ | ⟨x, w', hq, hv, hc'⟩ | ⟨f, args, w1, hq, hcalls⟩
    · rw [hq]; show wpOpsIn _ _ _ _ _ _ _ _; rw [hd]; exact h x _ _ (ha.put (by simpa [Nat.blt_eq] using hN) _) hc'
    · rw [hq]; show wpOpsIn _ _ _ _ _ _ _ _; rw [hd]; have := h x _ _ (ha.put (by simpa [Nat.blt_eq] using hN) (u x)) hc'; rw [hv] at this; exact this
    · rw [hq, Oper.uponIn_enter]
      refine ⟨fun hx => (by cases hx), (callsIn_wide.2 hcalls).mono fun e w' ⟨x, he, hc'⟩ => ?_⟩
      subst he
      show wpOpsIn _ _ _ _ _ _ _ _
      rw [hd]
      exact h x _ _ (ha.put (by simpa [Nat.blt_eq] using hN) _) hc')
/-- a call that turns what is owned -/
theorem W.callX {X : Type} {u : X → Value} {H' : X → Heap} {cl : Call} {fo : Operand} {g : FuncId} {args : Array Value} (hi : ops[i]? = some o) (hw : Wn ops S o true) (hd : o.dst = some d) (hN : Nat.blt d N = true)
    (ho : o.op = .call cl) (hcal : cl.callee = .value fo) (hf : ev S fo = some (.func (.func g) #[] #[])) (hargs : ∀ ρ, Val S ρ → cl.args.map ρ = args) (hbody : ∀ w, (callFunc g args).run Tryd.prog w = .ok (.enter g args) w)
    (hc : ∀ w, Cls w0 I H w → Calls Tryd.prog g args w fun e w' => ∃ x, e = .returned (u x) ∧ Cls w0 I (H' x) w') (h : ∀ x, WW N w0 I ops l Q ((d, u x) :: S) (H' x)) : WW N w0 I ops (i :: l) Q S H :=
  W.act hi hw hd hN (fun ρ hρ w hcl => .inr (.inr ⟨g, args, w, by
    simp only [execOp, ho, resolve, hcal, hargs _ hρ]
    rw [hρ _ _ hf]
    show (callFunc g (#[] ++ args ++ #[])).run Tryd.prog w = _
    simpa using hbody w, hc w hcl⟩)) (fun c hx => by rw [ho] at hx; cases hx) h
theorem W.end' (h : ∀ a w, AgreeD [] N S a → Cls w0 I H w → Q .normal a w) : WW N w0 I ops [] Q S H := fun a w ha hc => h a w ha hc
theorem W.doneQ {y : Code} {Q2 : Exit → Act → World → Prop} (hQ : Q .normal = y.wpIn Fence.wide 3 Tryd.prog Q2) (h : CW N w0 I y Q2 S H) : WW N w0 I ops [] Q S H := fun a w ha hc => by show Q .normal a w; rw [hQ]; exact h a w ha hc
theorem C.skipQ {y : Code} {Q2 : Exit → Act → World → Prop} (hQ : Q .normal = y.wpIn Fence.wide 3 Tryd.prog Q2) (h : CW N w0 I y Q2 S H) : CW N w0 I .skip Q S H := fun a w ha hc => wpIn_skip (by rw [hQ]; exact h a w ha hc)
theorem C.region {id m : Nat} {ops : Array Oper} (hm : ops.size = m) (h : WW N w0 I ops (List.range m) Q S H) : CW N w0 I (.region id ops false) Q S H := CI.region hm h
theorem C.seq {x y : Code} (h : CW N w0 I x (Exit.then (y.wpIn Fence.wide 3 Tryd.prog Q) Q) S H) : CW N w0 I (.seq x y) Q S H := CI.seq h
theorem C.skip {y : Code} (h : CW N w0 I y Q S H) : CW N w0 I .skip (Exit.then (y.wpIn Fence.wide 3 Tryd.prog Q) Q) S H := fun a w ha hc => wpIn_skip (h a w ha hc)
theorem C.block {id : Nat} {c : Code} (h : CW N w0 I c (Exit.inBlock id Q) S H) : CW N w0 I (.block id c) Q S H := fun a w ha hc => wpIn_block (h a w ha hc)
theorem C.cond_true {c : Operand} {x y : Code} {p : Bool} (hc : ev S c = some (.bool p)) (hp : p = true) (h : CW N w0 I x Q S H) : CW N w0 I (.cond c x y) Q S H := fun a w ha hcl => wpIn_cond_true (by rw [ha.val _ _ hc, hp]) (h a w ha hcl)
theorem C.cond_false {c : Operand} {x y : Code} {p : Bool} (hc : ev S c = some (.bool p)) (hp : p = false) (h : CW N w0 I y Q S H) : CW N w0 I (.cond c x y) Q S H := fun a w ha hcl => wpIn_cond_false (by rw [ha.val _ _ hc, hp]) (h a w ha hcl)
theorem C.weak {c : Code} {S' : Slots} (h : CW N w0 I c Q S' H) (hs : Sub S' S) : CW N w0 I c Q S H := fun a w ha hc => h a w (ha.sub hs) hc
theorem C.perm {c : Code} {H' : Heap} (h : CW N w0 I c Q S H') (hp : H.Perm H') : CW N w0 I c Q S H := fun a w ha hc => h a w ha (hc.perm hp)
theorem C.fewer {c : Code} {H' : Heap} (h : CW N w0 I c Q S H') (hp : H'.Sublist H) : CW N w0 I c Q S H := fun a w ha hc => h a w ha (hc.fewer hp)
theorem C.ret {f : FuncId} {fn : Func} {R : Ending → World → Prop} {rs : List ResultVar} {vs : List Value} (hQ : Q .ret = bodyPost Tryd.prog fn R .ret) (hf : Tryd.prog.funcs[f]? = some fn) (hrs : fn.results = rs.toArray) (hl : rs.length = vs.length)
    (hv : (if h : vs.toArray.size = 1 then vs.toArray[0] else .tuple vs.toArray) = v) (hall : ∀ (i : Nat) (r : ResultVar) (u : Value), rs[i]? = some r → vs[i]? = some u → ResV Tryd.prog N w0 I S H r u) (hR : ∀ w, Cls w0 I H w → R (.returned v) w) :
    CW N w0 I .ret Q S H := fun a w ha hc => by
  refine wpIn_ret ?_
  rw [hQ]
  obtain ⟨hd, fn', v', hf', hr, hR'⟩ := fin_of (P := Tryd.prog) (f := f) (N := N) (R := R) v hf hrs hl hv hall (show Agree N S a from ha) hc (hR w hc)
  rw [hf] at hf'; cases hf'
  exact ⟨hd, v', hr, hR'⟩
theorem wpIn_loop_rel {F : Fence} {n : Nat} {P : Program} {a : Act} {w : World} {c : Code} {α : Type} (L : α → Nat) (J : α → Act → World → Prop) {x0 : α} (h₀ : J x0 a w)
    (round : ∀ x a w, J x a w → c.wpIn F n P (Exit.then (fun a' w' => ∃ y, J y a' w' ∧ L y < L x) Q) a w) : (Code.loop c).wpIn F n P Q a w := by
  intro b k cs hro hb hr
  have key : ∀ j x a w, L x = j → J x a w →
      ∃ e a' w', Q e a' w' ∧ ArrivesIn (Machine.fenced P F) P (lone (b.atR a (.code c :: .inLoop c :: k)) cs w) b k cs e a' w' := by
    intro j
    induction j using Nat.strongRecOn with
    | _ j ih =>
      intro x a w hn hI
      obtain ⟨e, a₁, w₁, hq, harr⟩ := round x a w hI b (.inLoop c :: k) cs hro hb hr
      cases e with
      | normal =>
        obtain ⟨y, hI₁, hlt⟩ := hq
        obtain ⟨e₂, a₂, w₂, hq₂, harr₂⟩ := ih (L y) (hn ▸ hlt) y a₁ w₁ rfl hI₁
        exact ⟨e₂, a₂, w₂, hq₂, .of_steps (StepsIn.trans harr (.one (fenced_calm hb hr rfl) stepR_inLoop)) harr₂⟩
      | exit id => exact ⟨_, a₁, w₁, hq, .pass (x := .inLoop c) rfl (fun _ _ => .inl (by simp)) harr⟩
      | goto l => exact ⟨_, a₁, w₁, hq, .pass (x := .inLoop c) rfl (fun _ _ => .inl (by simp)) harr⟩
      | ret => exact ⟨_, a₁, w₁, hq, .pass (x := .inLoop c) rfl (fun _ _ => .inl (by simp)) harr⟩
      | panic ch => exact ⟨_, a₁, w₁, hq, .pass (x := .inLoop c) rfl (fun _ _ => .inl (by simp)) harr⟩
      | outgrown => exact ⟨_, a₁, w₁, hq, .pass (x := .inLoop c) rfl (fun _ _ => .inl (by simp)) harr⟩
  obtain ⟨e, a', w', hq, harr⟩ := key _ x0 a w rfl h₀
  exact ⟨e, a', w', hq, .of_steps (.one (fenced_calm hb hr rfl) stepR_loop) harr⟩
/-- A loop: round for round, 'S k', 'H k' for what stands as round k begins. -/
theorem C.loop {c : Code} {α : Type} (L : α → Nat) (Sx : α → Slots) (Hx : α → Heap) (p : α → Prop) (x0 : α) (h0 : p x0) (hs : Sub (Sx x0) S) (hH : H = Hx x0)
    (h : ∀ x, p x → ∀ Q' : Exit → Act → World → Prop, (∀ y, p y → L y < L x → ∀ a w, AgreeD [] N (Sx y) a → Cls w0 I (Hx y) w → Q' .normal a w) → (∀ e a w, e ≠ .normal → Q e a w → Q' e a w) → CW N w0 I c Q' (Sx x) (Hx x)) : CW N w0 I (.loop c) Q S H := fun a w ha hc => by
  subst hH
  refine wpIn_loop_rel L (fun x a w => p x ∧ AgreeD [] N (Sx x) a ∧ Cls w0 I (Hx x) w) ⟨h0, ha.sub hs, hc⟩ fun x a w ⟨hp, hA, hC⟩ => ?_
  refine h x hp _ (fun y hy hlt a' w' hA' hC' => ⟨y, ⟨hy, hA', hC'⟩, hlt⟩) (fun e a w he hq => ?_) a w hA hC
  cases e <;> first | exact absurd rfl he | exact hq
theorem calls_of_CW {f : FuncId} {fn : Func} {c : Code} {args : Array Value} {w : World} {R : Ending → World → Prop} (hf : Tryd.prog.funcs[f]? = some fn) (hb : fn.body = some c) (hN : fn.ntmps = N) (hsz : Nat.ble args.size N = true) (hS : ∀ p ∈ S, args[p.1]? = some p.2)
    (hc : Cls w0 I H w) (h : CW N w0 I c (bodyPost Tryd.prog fn R) S H) : Calls Tryd.prog f args w R :=
  callsIn_wide.1 (callsIn_of_CI wide_wide rfl hf hb hN hsz hS hc h)
end
def wnB (ops : Array Oper) (S : Slots) (o : Oper) : Option Bool := match o.guard with
  | none => some true
  | some (j, want) => match (ops[j]?).bind (·.dst) with
    | none => none
    | some t => match HW.get S t with
      | some (.bool p) => some (p == want)
      | _ => none
theorem wo {ops : Array Oper} {S : Slots} {o : Oper} {b : Bool} (h : wnB ops S o = some b) : Wn ops S o b := by
  unfold wnB at h
  cases hg : o.guard with
  | none => rw [hg] at h; cases h; exact Wn.none hg
  | some q =>
    obtain ⟨j, want⟩ := q
    rw [hg] at h
    simp only at h
    cases hj : (ops[j]?).bind (·.dst) with
    | none => rw [hj] at h; cases h
    | some t =>
      rw [hj] at h
      simp only at h
      cases ht : HW.get S t with
      | none => rw [ht] at h; cases h
      | some v =>
        rw [ht] at h
        cases v with
        | bool p => simp only [Option.some.injEq] at h; exact Wn.some hg hj ht h
        | _ => cases h
def nfB : Op → Bool
  | .defer _ => false
  | _ => true
theorem nf {o : Oper} (h : nfB o.op = true) : ∀ c, o.op ≠ .defer c := fun c e => by rw [e] at h; cases h

/-! #### regions that draw their order -/
section
variable {N : Nat} {S : Slots} {w0 w1 : World} {I : Mem} {H : Heap} {Q : Exit → Act → World → Prop} {Qn : Act → Heap → Prop} {ops : Array Oper} {lab : Lab} {ids : Nat → Option Nat} {l : List Nat} {i d : Nat} {o : Oper} {v : Value}
abbrev DD (N : Nat) (w0 : World) (I : Mem) (ops : Array Oper) (lab : Lab) (ids : Nat → Option Nat) (Q : Act → Heap → Prop) (l : List Nat) (S : Slots) (H : Heap) : Prop := DE Tryd.prog [] N w0 I ops lab ids Q l S H
theorem DW.pure (hi : ops[i]? = some o) (hg : o.guard = none) (hd : o.dst = some d) (hN : Nat.blt d N = true) (hk : (lab i).1 = .pure) (hp : FPure Tryd.prog o S v) (h : DD N w0 I ops lab ids Qn l ((d, v) :: S) H) : DD N w0 I ops lab ids Qn (i :: l) S H :=
  DE.imm hi hg hd hN hk (fun ρ hρ w _ => hp ρ hρ w) h
theorem DW.imm (hi : ops[i]? = some o) (hg : o.guard = none) (hd : o.dst = some d) (hN : Nat.blt d N = true) (hk : (lab i).1 = .pure) (hp : FImm Tryd.prog o I S v) (h : DD N w0 I ops lab ids Qn l ((d, v) :: S) H) : DD N w0 I ops lab ids Qn (i :: l) S H :=
  DE.imm hi hg hd hN hk hp h
theorem DW.quiet (hi : ops[i]? = some o) (hg : o.guard = none) (hd : o.dst = some d) (hN : Nat.blt d N = true) (hk : (lab i).1 = .quiet) (hp : FQuiet Tryd.prog o w0 I S H v) (h : DD N w0 I ops lab ids Qn l ((d, v) :: S) H) : DD N w0 I ops lab ids Qn (i :: l) S H := fun a ha => by
  show stepD Tryd.prog ops w0 I lab ids i _ a H
  unfold stepD
  rw [hi]
  intro _
  exact ⟨.val v, .inl ⟨by simp [Region.wanted, hg], .inr (.inl ⟨hk, fun w hc => hp _ ha.val w hc⟩)⟩, by show listD _ _ _ _ _ _ _ _ _ _; rw [hd]; exact h _ (ha.put (by simpa [Nat.blt_eq] using hN) v)⟩
theorem DW.new {ob : Obj} {mk : Nat → Value} (hi : ops[i]? = some o) (hg : o.guard = none) (hd : o.dst = some d) (hN : Nat.blt d N = true) (hk : (lab i).1 = .alloc) (hp : FNew Tryd.prog o S ob mk)
    (h : ∀ b, w0.heap.size ≤ b → DD N w0 I ops lab ids Qn l ((d, mk b) :: S) ((some b, ob) :: H)) : DD N w0 I ops lab ids Qn (i :: l) S H := fun a ha => by
  show stepD Tryd.prog ops w0 I lab ids i _ a H
  unfold stepD
  rw [hi]
  intro _
  exact ⟨.new ob mk, .inl ⟨by simp [Region.wanted, hg], hk, hp _ ha.val⟩, fun b hb => by show listD _ _ _ _ _ _ _ _ _ _; rw [hd]; exact h b hb _ (ha.put (by simpa [Nat.blt_eq] using hN) (mk b))⟩
theorem DW.actx {X : Type} {u : X → Value} {H' : X → Heap} (hi : ops[i]? = some o) (hg : o.guard = none) (hd : o.dst = some d) (hN : Nat.blt d N = true) (hk : (lab i).1 = .actx) (hp : FAct Tryd.prog o w0 I S H X u H')
    (h : ∀ x, DD N w0 I ops lab ids Qn l ((d, u x) :: S) (H' x)) : DD N w0 I ops lab ids Qn (i :: l) S H := fun a ha => by
  show stepD Tryd.prog ops w0 I lab ids i _ a H
  unfold stepD
  rw [hi]
  intro _
  exact ⟨.act X u H', .inl ⟨by simp [Region.wanted, hg], .inr (.inl hk), fun w hc => hp _ ha.val w hc⟩, fun x => by show listD _ _ _ _ _ _ _ _ _ _; rw [hd]; exact h x _ (ha.put (by simpa [Nat.blt_eq] using hN) (u x))⟩
theorem DW.look {x b : Nat} {ob : Obj} (hi : ops[i]? = some o) (hg : o.guard = none) (hd : o.dst = some d) (hN : Nat.blt d N = true) (hk : (lab i).1 = .look) (hx : (lab i).2 = some x) (hb : ids x = some b) (hm : (some b, ob) ∈ H)
    (hp : ∀ ρ, Val S ρ → ∀ w, w.heap[b]? = some ob → (execOp ρ o).run Tryd.prog w = .ok (.value v) w) (h : DD N w0 I ops lab ids Qn l ((d, v) :: S) H) : DD N w0 I ops lab ids Qn (i :: l) S H := fun a ha => by
  show stepD Tryd.prog ops w0 I lab ids i _ a H
  unfold stepD
  rw [hi]
  intro _
  exact ⟨.val v, .inl ⟨by simp [Region.wanted, hg], .inr (.inr ⟨hk, x, b, ob, hx, hb, hm, fun w hc => hp _ ha.val w hc⟩)⟩, by show listD _ _ _ _ _ _ _ _ _ _; rw [hd]; exact h _ (ha.put (by simpa [Nat.blt_eq] using hN) v)⟩
theorem DW.keep {X : Type} {u : X → Value} {H' : X → Heap} (hkeep : ∀ x p, p ∈ H → p ∈ H' x) (hi : ops[i]? = some o) (hg : o.guard = none) (hd : o.dst = some d) (hN : Nat.blt d N = true) (hk : (lab i).1 = .keep) (hp : FAct Tryd.prog o w0 I S H X u H')
    (h : ∀ x, DD N w0 I ops lab ids Qn l ((d, u x) :: S) (H' x)) : DD N w0 I ops lab ids Qn (i :: l) S H := fun a ha => by
  show stepD Tryd.prog ops w0 I lab ids i _ a H
  unfold stepD
  rw [hi]
  intro _
  exact ⟨.act X u H', .inl ⟨by simp [Region.wanted, hg], .inr (.inr (.inl ⟨hk, hkeep⟩)), fun w hc => hp _ ha.val w hc⟩, fun x => by show listD _ _ _ _ _ _ _ _ _ _; rw [hd]; exact h x _ (ha.put (by simpa [Nat.blt_eq] using hN) (u x))⟩
/-- what a call does, as an operation -/
theorem f_callX {X : Type} {u : X → Value} {H' : X → Heap} {cl : Call} {fo : Operand} {g : FuncId} {args : Array Value} (ho : o.op = .call cl) (hcal : cl.callee = .value fo) (hf : ev S fo = some (.func (.func g) #[] #[])) (hargs : ∀ ρ, Val S ρ → cl.args.map ρ = args) (hbody : ∀ w, (callFunc g args).run Tryd.prog w = .ok (.enter g args) w)
    (hc : ∀ w, Cls w0 I H w → Calls Tryd.prog g args w fun e w' => ∃ x, e = .returned (u x) ∧ Cls w0 I (H' x) w') : FAct Tryd.prog o w0 I S H X u H' := fun ρ hρ w hcl => .inr (.inr ⟨g, args, w, by
    simp only [execOp, ho, resolve, hcal, hargs _ hρ]
    rw [hρ _ _ hf]
    show (callFunc g (#[] ++ args ++ #[])).run Tryd.prog w = _
    simpa using hbody w, hc w hcl⟩)
theorem DW.put {H' : Heap} (hi : ops[i]? = some o) (hg : o.guard = none) (hd : o.dst = none) (hk : (lab i).1 = .store) (hn : (lab i).2 = none) (hp : FPut Tryd.prog o w0 I S H H') (h : DD N w0 I ops lab ids Qn l S H') : DD N w0 I ops lab ids Qn (i :: l) S H := DE.put hi hg hd hk hn hp h
theorem C.regionD {id : Nat} (l m : List Nat) (ll : List (Kd × Option Nat)) (hB : okP ops (labOf ll) l m = true)
    (h : ∀ w1, Later w0 w1 → DD N w1 I ops (labOf ll) (idsOf H) (fun a H2 => ∀ w', Cls w1 I H2 w' → Q .normal a w') l S H) : CW N w0 I (.region id ops true) Q S H := fun a w ha hc =>
  wpIn_wide.2 (wp_region_D mixedT (okD_of_okP hB) ⟨fun a H1 H2 hp h w' hc => h w' (hc.perm hp.symm), fun a H h w' hc => absurd ⟨w', hc⟩ h⟩ (fun a H w' hc hq => hq w' hc) hc (h w ⟨hc.os, hc.tape, hc.output, hc.size⟩ a ha))
theorem DW.doneQ {y : Code} {Q2 : Exit → Act → World → Prop} (hl : Later w0 w1) (hQ : Q .normal = y.wpIn Fence.wide 3 Tryd.prog Q2) (h : CW N w0 I y Q2 S H) : DD N w1 I ops lab ids (fun a H2 => ∀ w', Cls w1 I H2 w' → Q .normal a w') [] S H := fun a ha w' hc => by rw [hQ]; exact h a w' ha (hc.later hl)
theorem DW.end' (hl : Later w0 w1) (h : ∀ a w', AgreeD [] N S a → Cls w0 I H w' → Q .normal a w') : DD N w1 I ops lab ids (fun a H2 => ∀ w', Cls w1 I H2 w' → Q .normal a w') [] S H := fun a ha w' hc => h a w' ha (hc.later hl)
theorem C.exit {id : Nat} (h : ∀ a w, AgreeD [] N S a → Cls w0 I H w → Q (.exit id) a w) : CW N w0 I (.exit id) Q S H := fun a w ha hc => wpIn_exit (h a w ha hc)
theorem C.skipE (h : ∀ a w, AgreeD [] N S a → Cls w0 I H w → Q .normal a w) : CW N w0 I .skip Q S H := fun a w ha hc => wpIn_skip (h a w ha hc)
/-- a loop in its block, and what stands behind -/
theorem C.loopB {id : Nat} {c y : Code} {Q2 : Exit → Act → World → Prop} {α : Type} (L : α → Nat) (Sx : α → Slots) (Hx : α → Heap) (p : α → Prop) (x0 : α) (h0 : p x0) (hs : Sub (Sx x0) S) (hH : H = Hx x0)
    (hQ : Q .normal = y.wpIn Fence.wide 3 Tryd.prog Q2) (e : α → Prop)
    (h : ∀ x, p x → ∀ Q' : Exit → Act → World → Prop, (∀ y, p y → L y < L x → ∀ a w, AgreeD [] N (Sx y) a → Cls w0 I (Hx y) w → Q' .normal a w) → (e x → ∀ a w, AgreeD [] N (Sx x) a → Cls w0 I (Hx x) w → Q' (.exit id) a w) → (∀ a w, Q .ret a w → Q' .ret a w) → CW N w0 I c Q' (Sx x) (Hx x)) (hy : ∀ x, p x → e x → CW N w0 I y Q2 (Sx x) (Hx x)) : CW N w0 I (.block id (.loop c)) Q S H := by
  refine C.block ?_
  refine C.loop L Sx Hx p x0 h0 hs hH fun x hp Q' hn he => ?_
  refine h x hp Q' hn (fun hx a w ha hc => he _ a w (by simp) ?_) (fun a w hq => he _ a w (by simp) hq)
  show Exit.inBlock id Q (.exit id) a w
  simp only [Exit.inBlock, if_true]
  rw [hQ]
  exact hy x hp hx a w ha hc
end

theorem range_pick : ∀ (H : Heap) (k : Nat) (G : Heap), k = G.length → (List.range' k H.length).filterMap (fun i => (G ++ H)[i]?) = H
  | [], _, _, _ => rfl
  | p :: H, k, G, h => by
    rw [List.length_cons, List.range'_succ, List.filterMap_cons]
    have e : (G ++ p :: H)[k]? = some p := by subst h; simp
    rw [e]
    have := range_pick H (k + 1) (G ++ [p]) (by simp [h])
    simp only [List.append_assoc, List.cons_append, List.nil_append] at this
    simp only [this]
theorem pick_perm {H : Heap} {is : List Nat} (h : is.isPerm (List.range H.length) = true) : (pick is H).Perm H := by
  have h1 := (List.isPerm_iff.1 h).filterMap (fun i => H[i]?)
  have h2 := range_pick H 0 [] rfl
  rw [← List.range_eq_range'] at h2
  simp only [List.nil_append] at h2
  rw [h2] at h1; exact h1
theorem frameI {X : Type} {u : X → Value} {E A : Heap} {E' : X → Heap} {f : FuncId} {args : Array Value} {w0 w : World} {I : Mem} (h : ∀ (I' : Mem), Ext I I' → (∀ b o, (some b, o) ∈ A → I' b = some o) → ∀ (w0 w : World), Cls w0 I' E w → Calls Tryd.prog f args w fun e w' => ∃ x, e = .returned (u x) ∧ Cls w0 I' (E' x) w') (hc : Cls w0 I (E ++ A) w) :
    Calls Tryd.prog f args w fun e w' => ∃ x, e = .returned (u x) ∧ Cls w0 I (E' x ++ A) w' := by
  have hnA : (A.filterMap Prod.fst).Nodup := hc.nodup.sublist ((List.sublist_append_right E A).filterMap _)
  have hA : ∀ b o, (some b, o) ∈ A → addJ I A b = some o := fun b o hm => by
    unfold addJ
    rw [hc.disj b o (List.mem_append_right _ hm)]
    exact inJ_of_mem hnA hm
  refine (h (addJ I A) (Ext.addJ _ _) hA w0 w hc.settle).mono fun e w' ⟨x, he, hc'⟩ => ⟨x, he, ?_⟩
  refine ⟨hc'.os, hc'.tape, hc'.output, hc'.size, fun b o e => hc'.imm b o (Ext.addJ _ _ b o e), fun b o hm => ?_, fun b o hm => ?_, ?_⟩
  · rcases List.mem_append.1 hm with hm | hm
    · exact hc'.own b o hm
    · exact hc'.imm b o (hA b o hm)
  · rcases List.mem_append.1 hm with hm | hm
    · have := hc'.disj b o hm
      cases hI : I b with
      | none => rfl
      | some z => rw [Ext.addJ I A b z hI] at this; cases this
    · exact hc.disj b o (List.mem_append_right _ hm)
  · rw [List.filterMap_append, List.nodup_append]
    refine ⟨hc'.nodup, hnA, fun a ha b hb e => ?_⟩
    subst e
    obtain ⟨z, hz⟩ := mem_ids.1 ha
    obtain ⟨y, hy⟩ := mem_ids.1 hb
    have h1 := hc'.disj a z hz
    rw [hA a y hy] at h1; cases h1
section
variable {N : Nat} {S : Slots} {w0 : World} {I : Mem} {H : Heap} {Q : Exit → Act → World → Prop} {ops : Array Oper} {l : List Nat} {i d : Nat} {o : Oper} {v : Value}
/-- what is owned, in another order; less of it -/
theorem W.permP (is : List Nat) (h : is.isPerm (List.range H.length) = true) (hy : WW N w0 I ops l Q S (pick is H)) : WW N w0 I ops l Q S H := fun a w ha hc => hy a w ha (hc.perm (pick_perm h).symm)
theorem W.less (is : List Nat) (h : is.Nodup) (hy : WW N w0 I ops l Q S (pick is H)) : WW N w0 I ops l Q S H := fun a w ha hc => hy a w ha (hc.pick is h)
theorem C.less {c : Code} (is : List Nat) (h : is.Nodup) (hy : CW N w0 I c Q S (pick is H)) : CW N w0 I c Q S H := fun a w ha hc => hy a w ha (hc.pick is h)
/-- a call that turns a part of what is owned -/
theorem W.callF {X : Type} {u : X → Value} {E A : Heap} {E' : X → Heap} {cl : Call} {fo : Operand} {g : FuncId} {args : Array Value} (hi : ops[i]? = some o) (hw : Wn ops S o true) (hd : o.dst = some d) (hN : Nat.blt d N = true)
    (ho : o.op = .call cl) (hcal : cl.callee = .value fo) (hf : ev S fo = some (.func (.func g) #[] #[])) (hargs : ∀ ρ, Val S ρ → cl.args.map ρ = args) (hbody : ∀ w, (callFunc g args).run Tryd.prog w = .ok (.enter g args) w) (hH : H = E ++ A)
    (hc : ∀ (I' : Mem), Ext I I' → (∀ b o, (some b, o) ∈ A → I' b = some o) → ∀ (w0 w : World), Cls w0 I' E w → Calls Tryd.prog g args w fun e w' => ∃ x, e = .returned (u x) ∧ Cls w0 I' (E' x) w') (h : ∀ x, WW N w0 I ops l Q ((d, u x) :: S) (E' x ++ A)) : WW N w0 I ops (i :: l) Q S H :=
  W.callX hi hw hd hN ho hcal hf hargs hbody (fun w hcl => frameI hc (by rw [← hH]; exact hcl)) h
end

def Turn (I : Mem) (f : FuncId) (args : Array Value) (E : Heap) {X : Type} (u : X → Value) (E' : X → Heap) : Prop :=
  ∀ (I' : Mem), Ext I I' → ∀ (w0 w : World), Cls w0 I' E w → Calls Tryd.prog f args w fun e w' => ∃ x, e = .returned (u x) ∧ Cls w0 I' (E' x) w'
def FrontTurn (I : Mem) (f : FuncId) (args : Array Value) (H : Heap) {X : Type} (u : X → Value) (H' : X → Heap) : Prop :=
  ∀ (w0 w : World), Cls w0 I H w → Calls Tryd.prog f args w fun e w' => ∃ x, e = .returned (u x) ∧ Cls w0 I (H' x) w'
theorem Turn.at {I : Mem} {f : FuncId} {args : Array Value} {E A : Heap} {X : Type} {u : X → Value} {E' : X → Heap} (h : Turn I f args E u E') : FrontTurn I f args (E ++ A) u (fun x => E' x ++ A) := fun w0 w hc =>
  frameI (fun I' he _ w0 w hc => h I' he w0 w hc) hc
section
variable {N : Nat} {S : Slots} {w0 : World} {I : Mem} {H : Heap} {Q : Exit → Act → World → Prop} {ops : Array Oper} {l : List Nat} {i d : Nat} {o : Oper} {v : Value} {X : Type} {u : X → Value} {cl : Call} {fo : Operand} {g : FuncId} {args : Array Value}
theorem W.perm {H' : Heap} (hp : H.Perm H') (h : WW N w0 I ops l Q S H') : WW N w0 I ops l Q S H := fun a w ha hc => h a w ha (hc.perm hp)
theorem W.fewer {H' : Heap} (hp : H'.Sublist H) (h : WW N w0 I ops l Q S H') : WW N w0 I ops l Q S H := fun a w ha hc => h a w ha (hc.fewer hp)
theorem perm1 {a b R : Heap} : (a ++ (b ++ R)).Perm (b ++ (a ++ R)) := by
  rw [← List.append_assoc, ← List.append_assoc]; exact List.perm_append_comm.append_right R
theorem perm2 {a b c R : Heap} : (a ++ (b ++ (c ++ R))).Perm (c ++ (a ++ (b ++ R))) := (perm1.append_left a).trans perm1
theorem perm3 {a b c d R : Heap} : (a ++ (b ++ (c ++ (d ++ R)))).Perm (d ++ (a ++ (b ++ (c ++ R)))) := (perm2.append_left a).trans perm1
theorem perm4 {a b c d e R : Heap} : (a ++ (b ++ (c ++ (d ++ (e ++ R))))).Perm (e ++ (a ++ (b ++ (c ++ (d ++ R))))) := (perm3.append_left a).trans perm1
theorem W.f1 {a b R : Heap} (hH : H = a ++ (b ++ R)) (h : WW N w0 I ops l Q S (b ++ (a ++ R))) : WW N w0 I ops l Q S H := W.perm (by rw [hH]; exact perm1) h
theorem W.f2 {a b c R : Heap} (hH : H = a ++ (b ++ (c ++ R))) (h : WW N w0 I ops l Q S (c ++ (a ++ (b ++ R)))) : WW N w0 I ops l Q S H := W.perm (by rw [hH]; exact perm2) h
theorem W.f3 {a b c d R : Heap} (hH : H = a ++ (b ++ (c ++ (d ++ R)))) (h : WW N w0 I ops l Q S (d ++ (a ++ (b ++ (c ++ R))))) : WW N w0 I ops l Q S H := W.perm (by rw [hH]; exact perm3) h
theorem W.f4 {a b c d e R : Heap} (hH : H = a ++ (b ++ (c ++ (d ++ (e ++ R))))) (h : WW N w0 I ops l Q S (e ++ (a ++ (b ++ (c ++ (d ++ R)))))) : WW N w0 I ops l Q S H := W.perm (by rw [hH]; exact perm4) h
theorem W.dr {a R : Heap} (hH : H = a ++ R) (h : WW N w0 I ops l Q S R) : WW N w0 I ops l Q S H := W.fewer (by rw [hH]; exact List.sublist_append_right _ _) h
theorem C.f1 {k : Code} {a b R : Heap} (hH : H = a ++ (b ++ R)) (h : CW N w0 I k Q S (b ++ (a ++ R))) : CW N w0 I k Q S H := C.perm h (by rw [hH]; exact perm1)
theorem C.f2 {k : Code} {a b c R : Heap} (hH : H = a ++ (b ++ (c ++ R))) (h : CW N w0 I k Q S (c ++ (a ++ (b ++ R)))) : CW N w0 I k Q S H := C.perm h (by rw [hH]; exact perm2)
theorem C.f3 {k : Code} {a b c d R : Heap} (hH : H = a ++ (b ++ (c ++ (d ++ R)))) (h : CW N w0 I k Q S (d ++ (a ++ (b ++ (c ++ R))))) : CW N w0 I k Q S H := C.perm h (by rw [hH]; exact perm3)
theorem C.f4 {k : Code} {a b c d e R : Heap} (hH : H = a ++ (b ++ (c ++ (d ++ (e ++ R))))) (h : CW N w0 I k Q S (e ++ (a ++ (b ++ (c ++ (d ++ R)))))) : CW N w0 I k Q S H := C.perm h (by rw [hH]; exact perm4)
theorem C.dr {k : Code} {a R : Heap} (hH : H = a ++ R) (h : CW N w0 I k Q S R) : CW N w0 I k Q S H := C.fewer h (by rw [hH]; exact List.sublist_append_right _ _)
end
/-- a call that turns nothing -/
theorem Turn.same {I : Mem} {f : FuncId} {args : Array Value} {E : Heap} {v : Value} (h : ∀ (I' : Mem), Ext I I' → ∀ (w0 w : World), Cls w0 I' E w → Calls Tryd.prog f args w fun e w' => e = .returned v ∧ Below w.heap.size w w') : Turn I f args E (fun _ : Unit => v) (fun _ => E) := fun I' he w0 w hc =>
  (h I' he w0 w hc).mono fun e w' ⟨h1, h2⟩ => ⟨(), h1, hc.below h2⟩

theorem W.heapIs {N : Nat} {S : Slots} {w0 : World} {I : Mem} {H H2 : Heap} {Q : Exit → Act → World → Prop} {ops : Array Oper} {l : List Nat} (hH : H = H2) (h : WW N w0 I ops l Q S H2) : WW N w0 I ops l Q S H := by subst hH; exact h
section
variable {N : Nat} {S : Slots} {w0 : World} {I : Mem} {H : Heap} {Q : Exit → Act → World → Prop} {ops : Array Oper} {l : List Nat} {i d : Nat} {o : Oper} {v : Value} {X : Type} {u : X → Value} {cl : Call} {fo : Operand} {g : FuncId} {args : Array Value}
end

section
variable {N : Nat} {S : Slots} {w0 w1 : World} {I : Mem} {H : Heap} {Q : Exit → Act → World → Prop} {Qn : Act → Heap → Prop} {ops : Array Oper} {lab : Lab} {ids : Nat → Option Nat} {l : List Nat} {i d : Nat} {o : Oper} {v : Value} {X : Type} {u : X → Value} {cl : Call} {fo : Operand} {g : FuncId} {args : Array Value}
theorem cls_less {I' : Mem} {w : World} (he : Ext I I') (h : Cls w0 I' H w) : Cls w0 I H w := ⟨h.os, h.tape, h.output, h.size, fun b o e => h.imm b o (he b o e), h.own, (fun b o hm => by
  have := h.disj b o hm
  cases hI : I b with
  | none => rfl
  | some z => rw [he b z hI] at this; cases this), h.nodup⟩
theorem DW.c01k {E' : X → Heap} (hi : ops[i]? = some o) (hg : o.guard = none) (hd : o.dst = some d) (hN : Nat.blt d N = true) (hk : (lab i).1 = .keep) (hc : Turn I g args [] u E') (hbody : ∀ w, (callFunc g args).run Tryd.prog w = .ok (.enter g args) w) (ho : o.op = .call cl) (hcal : cl.callee = .value fo) (hf : ev S fo = some (.func (.func g) #[] #[])) (hargs : ∀ ρ, Val S ρ → cl.args.map ρ = args)
    (h : ∀ x, DD N w0 I ops lab ids Qn l ((d, u x) :: S) (E' x ++ H)) : DD N w0 I ops lab ids Qn (i :: l) S H :=
  DW.keep (fun x p hp => List.mem_append_right _ hp) hi hg hd hN hk (f_callX ho hcal hf hargs hbody (fun w hcl => hc.at w0 w hcl)) h
end

section
variable {N : Nat} {S : Slots} {w0 w1 : World} {I : Mem} {H : Heap} {Q : Exit → Act → World → Prop} {Qn : Act → Heap → Prop} {ops : Array Oper} {lab : Lab} {ids : Nat → Option Nat} {l : List Nat} {i d : Nat} {o : Oper} {v : Value} {X : Type} {u : X → Value} {cl : Call} {fo : Operand} {g : FuncId} {args : Array Value}
theorem DV.imm (hi : ops[i]? = some o) (hw : Wn ops S o true) (hd : o.dst = some d) (hN : Nat.blt d N = true) (hk : (lab i).1 = .pure) (hp : FImm Tryd.prog o I S v) (h : DD N w0 I ops lab ids Qn l ((d, v) :: S) H) : DD N w0 I ops lab ids Qn (i :: l) S H := fun a ha => by
  show stepD Tryd.prog ops w0 I lab ids i _ a H
  unfold stepD
  rw [hi]
  intro _
  exact ⟨.val v, .inl ⟨hw N a ha, .inl ⟨hk, hp _ ha.val⟩⟩, by show listD _ _ _ _ _ _ _ _ _ _; rw [hd]; exact h _ (ha.put (by simpa [Nat.blt_eq] using hN) v)⟩
theorem DV.pure (hi : ops[i]? = some o) (hw : Wn ops S o true) (hd : o.dst = some d) (hN : Nat.blt d N = true) (hk : (lab i).1 = .pure) (hp : FPure Tryd.prog o S v) (h : DD N w0 I ops lab ids Qn l ((d, v) :: S) H) : DD N w0 I ops lab ids Qn (i :: l) S H :=
  DV.imm hi hw hd hN hk (fun ρ hρ w _ => hp ρ hρ w) h
theorem DV.quiet (hi : ops[i]? = some o) (hw : Wn ops S o true) (hd : o.dst = some d) (hN : Nat.blt d N = true) (hk : (lab i).1 = .quiet) (hp : FQuiet Tryd.prog o w0 I S H v) (h : DD N w0 I ops lab ids Qn l ((d, v) :: S) H) : DD N w0 I ops lab ids Qn (i :: l) S H := fun a ha => by
  show stepD Tryd.prog ops w0 I lab ids i _ a H
  unfold stepD
  rw [hi]
  intro _
  exact ⟨.val v, .inl ⟨hw N a ha, .inr (.inl ⟨hk, fun w hc => hp _ ha.val w hc⟩)⟩, by show listD _ _ _ _ _ _ _ _ _ _; rw [hd]; exact h _ (ha.put (by simpa [Nat.blt_eq] using hN) v)⟩
theorem DV.not (hi : ops[i]? = some o) (hw : Wn ops S o false) (hd : o.dst = some d) (hN : Nat.blt d N = true) (h : DD N w0 I ops lab ids Qn l ((d, undef) :: S) H) : DD N w0 I ops lab ids Qn (i :: l) S H := fun a ha => by
  show stepD Tryd.prog ops w0 I lab ids i _ a H
  unfold stepD
  rw [hi]
  intro _
  exact ⟨.val undef, .inr ⟨hw N a ha, rfl⟩, by show listD _ _ _ _ _ _ _ _ _ _; rw [hd]; exact h _ (ha.put (by simpa [Nat.blt_eq] using hN) undef)⟩
theorem DV.keep {H' : X → Heap} (hkeep : ∀ x p, p ∈ H → p ∈ H' x) (hi : ops[i]? = some o) (hw : Wn ops S o true) (hd : o.dst = some d) (hN : Nat.blt d N = true) (hk : (lab i).1 = .keep) (hp : FAct Tryd.prog o w0 I S H X u H')
    (h : ∀ x, DD N w0 I ops lab ids Qn l ((d, u x) :: S) (H' x)) : DD N w0 I ops lab ids Qn (i :: l) S H := fun a ha => by
  show stepD Tryd.prog ops w0 I lab ids i _ a H
  unfold stepD
  rw [hi]
  intro _
  exact ⟨.act X u H', .inl ⟨hw N a ha, .inr (.inr (.inl ⟨hk, hkeep⟩)), fun w hc => hp _ ha.val w hc⟩, fun x => by show listD _ _ _ _ _ _ _ _ _ _; rw [hd]; exact h x _ (ha.put (by simpa [Nat.blt_eq] using hN) (u x))⟩
theorem DV.c01k {E' : X → Heap} (hi : ops[i]? = some o) (hw : Wn ops S o true) (hd : o.dst = some d) (hN : Nat.blt d N = true) (hk : (lab i).1 = .keep) (hc : Turn I g args [] u E') (hbody : ∀ w, (callFunc g args).run Tryd.prog w = .ok (.enter g args) w) (ho : o.op = .call cl) (hcal : cl.callee = .value fo) (hf : ev S fo = some (.func (.func g) #[] #[])) (hargs : ∀ ρ, Val S ρ → cl.args.map ρ = args)
    (h : ∀ x, DD N w0 I ops lab ids Qn l ((d, u x) :: S) (E' x ++ H)) : DD N w0 I ops lab ids Qn (i :: l) S H :=
  DV.keep (fun x p hp => List.mem_append_right _ hp) hi hw hd hN hk (f_callX ho hcal hf hargs hbody (fun w hcl => hc.at w0 w hcl)) h
theorem C.exitQ {id : Nat} {y : Code} {Q2 : Exit → Act → World → Prop} (hQ : Q (.exit id) = y.wpIn Fence.wide 3 Tryd.prog Q2) (h : CW N w0 I y Q2 S H) : CW N w0 I (.exit id) Q S H := fun a w ha hc => wpIn_exit (by rw [hQ]; exact h a w ha hc)
end

section
variable {N : Nat} {S : Slots} {w0 w1 : World} {I I' : Mem} {H : Heap} {Q : Exit → Act → World → Prop} {Qn : Act → Heap → Prop} {ops : Array Oper} {lab : Lab} {ids : Nat → Option Nat} {l : List Nat} {i d : Nat} {o : Oper} {v : Value}
theorem C.heapIs {c : Code} {H2 : Heap} (hH : H = H2) (h : CW N w0 I c Q S H2) : CW N w0 I c Q S H := by subst hH; exact h
theorem C.cls {c : Code} {H2 : Heap} (hH : ∀ w, Cls w0 I H w → Cls w0 I H2 w) (h : CW N w0 I c Q S H2) : CW N w0 I c Q S H := fun a w ha hc => h a w ha (hH w hc)
/-- what stays for a while -/
structure Thaw (I I' : Mem) (E : Heap) : Prop where
  ext : Ext I I'
  mem : ∀ b o, (some b, o) ∈ E → I' b = some o
  disj : ∀ b o, (some b, o) ∈ E → I b = none
  nodup : (E.filterMap Prod.fst).Nodup
theorem Thaw.cls {E : Heap} (h : Thaw I I' E) {w : World} (hc : Cls w0 I' H w) : Cls w0 I (E ++ H) w := by
  have hc2 := cls_less h.ext hc
  refine ⟨hc.os, hc.tape, hc.output, hc.size, hc2.imm, fun b o hm => ?_, fun b o hm => ?_, ?_⟩
  · rcases List.mem_append.1 hm with hm | hm
    · exact hc.imm b o (h.mem b o hm)
    · exact hc.own b o hm
  · rcases List.mem_append.1 hm with hm | hm
    · exact h.disj b o hm
    · exact hc2.disj b o hm
  · rw [List.filterMap_append, List.nodup_append]
    refine ⟨h.nodup, hc.nodup, fun a ha b hb e => ?_⟩
    subst e
    obtain ⟨z, hz⟩ := mem_ids.1 ha
    obtain ⟨y, hy⟩ := mem_ids.1 hb
    have h1 := hc.disj a y hy
    rw [h.mem a z hz] at h1; cases h1
end

theorem W.endRet {N : Nat} {S : Slots} {w0 : World} {I : Mem} {H : Heap} {Q : Exit → Act → World → Prop} {ops : Array Oper} {f : FuncId} {fn : Func} {R : Ending → World → Prop} {rs : List ResultVar} {vs : List Value} {v : Value} (hQ : Q .normal = bodyPost Tryd.prog fn R .normal) (hf : Tryd.prog.funcs[f]? = some fn) (hrs : fn.results = rs.toArray) (hl : rs.length = vs.length)
    (hv : (if h : vs.toArray.size = 1 then vs.toArray[0] else .tuple vs.toArray) = v) (hall : ∀ (i : Nat) (r : ResultVar) (u : Value), rs[i]? = some r → vs[i]? = some u → ResV Tryd.prog N w0 I S H r u) (hR : ∀ w, Cls w0 I H w → R (.returned v) w) :
    WW N w0 I ops [] Q S H := fun a w ha hc => by
  show Q .normal a w
  rw [hQ]
  obtain ⟨hd, fn', v', hf', hr, hR'⟩ := fin_of (P := Tryd.prog) (f := f) (N := N) (R := R) v hf hrs hl hv hall (show Agree N S a from ha) hc (hR w hc)
  rw [hf] at hf'; cases hf'
  exact ⟨hd, v', hr, hR'⟩


section
variable {N : Nat} {S : Slots} {w0 w1 : World} {I : Mem} {H : Heap} {Q : Exit → Act → World → Prop} {Qn : Act → Heap → Prop} {ops : Array Oper} {lab : Lab} {ids : Nat → Option Nat} {l : List Nat} {i d : Nat} {o : Oper} {v : Value} {X : Type} {u : X → Value} {cl : Call} {fo : Operand} {g : FuncId} {args : Array Value}
theorem DV.actx {H' : X → Heap} (hi : ops[i]? = some o) (hw : Wn ops S o true) (hd : o.dst = some d) (hN : Nat.blt d N = true) (hk : (lab i).1 = .actx) (hp : FAct Tryd.prog o w0 I S H X u H')
    (h : ∀ x, DD N w0 I ops lab ids Qn l ((d, u x) :: S) (H' x)) : DD N w0 I ops lab ids Qn (i :: l) S H := fun a ha => by
  show stepD Tryd.prog ops w0 I lab ids i _ a H
  unfold stepD
  rw [hi]
  intro _
  exact ⟨.act X u H', .inl ⟨hw N a ha, .inr (.inl hk), fun w hc => hp _ ha.val w hc⟩, fun x => by show listD _ _ _ _ _ _ _ _ _ _; rw [hd]; exact h x _ (ha.put (by simpa [Nat.blt_eq] using hN) (u x))⟩
end

end Go.Proofs.YtfcedjmgddloiaaDoor
