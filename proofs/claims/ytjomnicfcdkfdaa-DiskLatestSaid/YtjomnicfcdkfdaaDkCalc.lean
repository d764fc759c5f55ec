import Derived.Test.YtjomnicfcdkfdaaDkRead
namespace Go.Proofs.Ytjomnicfcdkfdaa
open Go Go.HW Go.RowKit
set_option linter.unusedVariables false
set_option linter.unusedSimpArgs false

/-! ### rules for walks by hand: the fence is the wide one, nothing is deferred -/
abbrev CW (N : Nat) (w0 : World) (I : Mem) (c : Code) (Q : Exit → Act → World → Prop) (S : Slots) (H : Heap) : Prop := CI Fence.wide 3 Try.prog [] N w0 I c Q S H
abbrev WW (N : Nat) (w0 : World) (I : Mem) (ops : Array Oper) (l : List Nat) (Q : Exit → Act → World → Prop) (S : Slots) (H : Heap) : Prop := WI Fence.wide 3 Try.prog [] N w0 I ops l Q S H
section
variable {N : Nat} {S : Slots} {w0 : World} {I : Mem} {H : Heap} {Q : Exit → Act → World → Prop} {ops : Array Oper} {l : List Nat} {i d : Nat} {o : Oper} {v : Value} {P : Program}
theorem opsW_go (hi : ops[i]? = some o) (hw : Wn ops S o true) (hnd : ∀ c, o.op ≠ .defer c) {a : Act} (ha : AgreeD [] N S a) {w : World} (h : o.uponIn Fence.wide 3 Try.prog a (wpOpsIn Fence.wide 3 Try.prog ops Q l) Q ((execOp a.eval o).run Try.prog w)) : wpOpsIn Fence.wide 3 Try.prog ops Q (i :: l) a w := by
  unfold wpOpsIn
  rw [hi]
  simp only [hw N a (show Agree N S a from ha), if_true]
  exact ⟨fun f _ => trivial, by rw [Oper.semAt_eq _ _ _ hnd]; exact h⟩
theorem W.imm (hi : ops[i]? = some o) (hw : Wn ops S o true) (hd : o.dst = some d) (hN : Nat.blt d N = true) (hp : FImm Try.prog o I S v) (hnd : ∀ c, o.op ≠ .defer c) (h : WW N w0 I ops l Q ((d, v) :: S) H) : WW N w0 I ops (i :: l) Q S H := fun a w ha hc =>
  opsW_go hi hw hnd ha (by rw [hp _ ha.val w hc.imm]; show wpOpsIn _ _ _ _ _ _ _ _; rw [hd]; exact h _ _ (ha.put (by simpa [Nat.blt_eq] using hN) v) hc)
theorem W.pure (hi : ops[i]? = some o) (hw : Wn ops S o true) (hd : o.dst = some d) (hN : Nat.blt d N = true) (hp : FPure Try.prog o S v) (hnd : ∀ c, o.op ≠ .defer c) (h : WW N w0 I ops l Q ((d, v) :: S) H) : WW N w0 I ops (i :: l) Q S H :=
  W.imm hi hw hd hN (fun ρ hρ w _ => hp ρ hρ w) hnd h
theorem W.not (hi : ops[i]? = some o) (hw : Wn ops S o false) (hd : o.dst = some d) (hN : Nat.blt d N = true) (h : WW N w0 I ops l Q ((d, undef) :: S) H) : WW N w0 I ops (i :: l) Q S H := fun a w ha hc => by
  show wpOpsIn _ _ _ _ _ _ _ _
  unfold wpOpsIn
  rw [hi]
  simp only [hw N a (show Agree N S a from ha), Bool.false_eq_true, if_false]
  exact ⟨fun f _ => trivial, by rw [hd]; exact h _ _ (ha.put (by simpa [Nat.blt_eq] using hN) undef) hc⟩
theorem W.quiet (hi : ops[i]? = some o) (hw : Wn ops S o true) (hd : o.dst = some d) (hN : Nat.blt d N = true) (hp : FQuiet Try.prog o w0 I S H v) (hnd : ∀ c, o.op ≠ .defer c) (h : WW N w0 I ops l Q ((d, v) :: S) H) : WW N w0 I ops (i :: l) Q S H := fun a w ha hc =>
  opsW_go hi hw hnd ha (by
    rcases hp _ ha.val w hc with hq | ⟨f, args, hq, hcalls⟩
    · rw [hq]; show wpOpsIn _ _ _ _ _ _ _ _; rw [hd]; exact h _ _ (ha.put (by simpa [Nat.blt_eq] using hN) v) hc
    · rw [hq, Oper.uponIn_enter]
      refine ⟨fun hx => (by cases hx), (callsIn_wide.2 hcalls).mono fun e w' ⟨he, hb⟩ => ?_⟩
      subst he
      show wpOpsIn _ _ _ _ _ _ _ _
      rw [hd]
      exact h _ _ (ha.put (by simpa [Nat.blt_eq] using hN) v) (hc.below hb))
theorem W.new {ob : Obj} {mk : Nat → Value} (hi : ops[i]? = some o) (hw : Wn ops S o true) (hd : o.dst = some d) (hN : Nat.blt d N = true) (hp : FNew Try.prog o S ob mk) (hnd : ∀ c, o.op ≠ .defer c)
    (h : ∀ b, w0.heap.size ≤ b → WW N w0 I ops l Q ((d, mk b) :: S) ((some b, ob) :: H)) : WW N w0 I ops (i :: l) Q S H := fun a w ha hc =>
  opsW_go hi hw hnd ha (by rw [hp _ ha.val w]; show wpOpsIn _ _ _ _ _ _ _ _; rw [hd]; exact h _ hc.size _ _ (ha.put (by simpa [Nat.blt_eq] using hN) _) (hc.alloc ob))
theorem W.put {H' : Heap} (hi : ops[i]? = some o) (hw : Wn ops S o true) (hd : o.dst = none) (hp : FPut Try.prog o w0 I S H H') (hnd : ∀ c, o.op ≠ .defer c) (h : WW N w0 I ops l Q S H') : WW N w0 I ops (i :: l) Q S H := fun a w ha hc => by
  obtain ⟨w', hr, hc'⟩ := hp _ ha.val w hc
  exact opsW_go hi hw hnd ha (by rw [hr]; show wpOpsIn _ _ _ _ _ _ _ _; rw [hd]; exact h _ _ ha hc')
theorem W.act {X : Type} {u : X → Value} {H' : X → Heap} (hi : ops[i]? = some o) (hw : Wn ops S o true) (hd : o.dst = some d) (hN : Nat.blt d N = true) (hp : FAct Try.prog o w0 I S H X u H') (hnd : ∀ c, o.op ≠ .defer c)
    (h : ∀ x, WW N w0 I ops l Q ((d, u x) :: S) (H' x)) : WW N w0 I ops (i :: l) Q S H := fun a w ha hc =>
  opsW_go hi hw hnd ha (by
    rcases hp _ ha.val w hc with ⟨x, w', hq, hc'⟩ | ⟨x, w', hq, hv, hc'⟩ | ⟨f, args, w1, hq, hcalls⟩
    · rw [hq]; show wpOpsIn _ _ _ _ _ _ _ _; rw [hd]; exact h x _ _ (ha.put (by simpa [Nat.blt_eq] using hN) _) hc'
    · rw [hq]; show wpOpsIn _ _ _ _ _ _ _ _; rw [hd]; have := h x _ _ (ha.put (by simpa [Nat.blt_eq] using hN) (u x)) hc'; rw [hv] at this; exact this
    · rw [hq, Oper.uponIn_enter]
      refine ⟨fun hx => (by cases hx), (callsIn_wide.2 hcalls).mono fun e w' ⟨x, he, hc'⟩ => ?_⟩
      subst he
      show wpOpsIn _ _ _ _ _ _ _ _
      rw [hd]
      exact h x _ _ (ha.put (by simpa [Nat.blt_eq] using hN) _) hc')
/-- a call that turns what is owned -/
theorem W.callX {X : Type} {u : X → Value} {H' : X → Heap} {cl : Call} {fo : Operand} {g : FuncId} {args : Array Value} (hi : ops[i]? = some o) (hw : Wn ops S o true) (hd : o.dst = some d) (hN : Nat.blt d N = true)
    (ho : o.op = .call cl) (hcal : cl.callee = .value fo) (hf : ev S fo = some (.func (.func g) #[] #[])) (hargs : ∀ ρ, Val S ρ → cl.args.map ρ = args) (hbody : ∀ w, (callFunc g args).run Try.prog w = .ok (.enter g args) w)
    (hc : ∀ w, Cls w0 I H w → Calls Try.prog g args w fun e w' => ∃ x, e = .returned (u x) ∧ Cls w0 I (H' x) w') (h : ∀ x, WW N w0 I ops l Q ((d, u x) :: S) (H' x)) : WW N w0 I ops (i :: l) Q S H :=
  W.act hi hw hd hN (fun ρ hρ w hcl => .inr (.inr ⟨g, args, w, by
    simp only [execOp, ho, resolve, hcal, hargs _ hρ]
    rw [hρ _ _ hf]
    show (callFunc g (#[] ++ args ++ #[])).run Try.prog w = _
    simpa using hbody w, hc w hcl⟩)) (fun c hx => by rw [ho] at hx; cases hx) h
theorem W.done {y : Code} (h : CW N w0 I y Q S H) : WW N w0 I ops [] (Exit.then (y.wpIn Fence.wide 3 Try.prog Q) Q) S H := fun a w ha hc => h a w ha hc
theorem W.end' (h : ∀ a w, AgreeD [] N S a → Cls w0 I H w → Q .normal a w) : WW N w0 I ops [] Q S H := fun a w ha hc => h a w ha hc
theorem W.doneQ {y : Code} {Q2 : Exit → Act → World → Prop} (hQ : Q .normal = y.wpIn Fence.wide 3 Try.prog Q2) (h : CW N w0 I y Q2 S H) : WW N w0 I ops [] Q S H := fun a w ha hc => by show Q .normal a w; rw [hQ]; exact h a w ha hc
theorem C.skipQ {y : Code} {Q2 : Exit → Act → World → Prop} (hQ : Q .normal = y.wpIn Fence.wide 3 Try.prog Q2) (h : CW N w0 I y Q2 S H) : CW N w0 I .skip Q S H := fun a w ha hc => wpIn_skip (by rw [hQ]; exact h a w ha hc)
theorem C.region {id m : Nat} {ops : Array Oper} (hm : ops.size = m) (h : WW N w0 I ops (List.range m) Q S H) : CW N w0 I (.region id ops false) Q S H := CI.region hm h
theorem C.seq {x y : Code} (h : CW N w0 I x (Exit.then (y.wpIn Fence.wide 3 Try.prog Q) Q) S H) : CW N w0 I (.seq x y) Q S H := CI.seq h
theorem C.skip {y : Code} (h : CW N w0 I y Q S H) : CW N w0 I .skip (Exit.then (y.wpIn Fence.wide 3 Try.prog Q) Q) S H := fun a w ha hc => wpIn_skip (h a w ha hc)
theorem C.block {id : Nat} {c : Code} (h : CW N w0 I c (Exit.inBlock id Q) S H) : CW N w0 I (.block id c) Q S H := fun a w ha hc => wpIn_block (h a w ha hc)
theorem C.cond_true {c : Operand} {x y : Code} {p : Bool} (hc : ev S c = some (.bool p)) (hp : p = true) (h : CW N w0 I x Q S H) : CW N w0 I (.cond c x y) Q S H := fun a w ha hcl => wpIn_cond_true (by rw [ha.val _ _ hc, hp]) (h a w ha hcl)
theorem C.cond_false {c : Operand} {x y : Code} {p : Bool} (hc : ev S c = some (.bool p)) (hp : p = false) (h : CW N w0 I y Q S H) : CW N w0 I (.cond c x y) Q S H := fun a w ha hcl => wpIn_cond_false (by rw [ha.val _ _ hc, hp]) (h a w ha hcl)
theorem C.weak {c : Code} {S' : Slots} (h : CW N w0 I c Q S' H) (hs : Sub S' S) : CW N w0 I c Q S H := fun a w ha hc => h a w (ha.sub hs) hc
theorem C.perm {c : Code} {H' : Heap} (h : CW N w0 I c Q S H') (hp : H.Perm H') : CW N w0 I c Q S H := fun a w ha hc => h a w ha (hc.perm hp)
theorem C.fewer {c : Code} {H' : Heap} (h : CW N w0 I c Q S H') (hp : H'.Sublist H) : CW N w0 I c Q S H := fun a w ha hc => h a w ha (hc.fewer hp)
theorem C.ret {f : FuncId} {fn : Func} {R : Ending → World → Prop} {rs : List ResultVar} {vs : List Value} (hQ : Q .ret = bodyPost Try.prog fn R .ret) (hf : Try.prog.funcs[f]? = some fn) (hrs : fn.results = rs.toArray) (hl : rs.length = vs.length)
    (hv : (if h : vs.toArray.size = 1 then vs.toArray[0] else .tuple vs.toArray) = v) (hall : ∀ (i : Nat) (r : ResultVar) (u : Value), rs[i]? = some r → vs[i]? = some u → ResV Try.prog N w0 I S H r u) (hR : ∀ w, Cls w0 I H w → R (.returned v) w) :
    CW N w0 I .ret Q S H := fun a w ha hc => by
  refine wpIn_ret ?_
  rw [hQ]
  obtain ⟨hd, fn', v', hf', hr, hR'⟩ := fin_of (P := Try.prog) (f := f) (N := N) (R := R) v hf hrs hl hv hall (show Agree N S a from ha) hc (hR w hc)
  rw [hf] at hf'; cases hf'
  exact ⟨hd, v', hr, hR'⟩
theorem wpIn_loop_rel {F : Fence} {n : Nat} {P : Program} {a : Act} {w : World} {c : Code} {α : Type} (L : α → Nat) (J : α → Act → World → Prop) {x0 : α} (h₀ : J x0 a w)
    (round : ∀ x a w, J x a w → c.wpIn F n P (Exit.then (fun a' w' => ∃ y, J y a' w' ∧ L y < L x) Q) a w) : (Code.loop c).wpIn F n P Q a w := by
  intro b k cs hro hb hr
  have key : ∀ j x a w, L x = j → J x a w →
      ∃ e a' w', Q e a' w' ∧ ArrivesIn (Machine.fenced P F) P (lone (b.atR a (.code c :: .inLoop c :: k)) cs w) b k cs e a' w' := by
    intro j
    induction j using Nat.strongRecOn with
    | _ j ih =>
      intro x a w hn hI
      obtain ⟨e, a₁, w₁, hq, harr⟩ := round x a w hI b (.inLoop c :: k) cs hro hb hr
      cases e with
      | normal =>
        obtain ⟨y, hI₁, hlt⟩ := hq
        obtain ⟨e₂, a₂, w₂, hq₂, harr₂⟩ := ih (L y) (hn ▸ hlt) y a₁ w₁ rfl hI₁
        exact ⟨e₂, a₂, w₂, hq₂, .of_steps (StepsIn.trans harr (.one (fenced_calm hb hr rfl) stepR_inLoop)) harr₂⟩
      | exit id => exact ⟨_, a₁, w₁, hq, .pass (x := .inLoop c) rfl (fun _ _ => .inl (by simp)) harr⟩
      | goto l => exact ⟨_, a₁, w₁, hq, .pass (x := .inLoop c) rfl (fun _ _ => .inl (by simp)) harr⟩
      | ret => exact ⟨_, a₁, w₁, hq, .pass (x := .inLoop c) rfl (fun _ _ => .inl (by simp)) harr⟩
      | panic ch => exact ⟨_, a₁, w₁, hq, .pass (x := .inLoop c) rfl (fun _ _ => .inl (by simp)) harr⟩
      | outgrown => exact ⟨_, a₁, w₁, hq, .pass (x := .inLoop c) rfl (fun _ _ => .inl (by simp)) harr⟩
  obtain ⟨e, a', w', hq, harr⟩ := key _ x0 a w rfl h₀
  exact ⟨e, a', w', hq, .of_steps (.one (fenced_calm hb hr rfl) stepR_loop) harr⟩
/-- A loop: round for round, 'S k', 'H k' for what stands as round k begins. -/
theorem C.loop {c : Code} {α : Type} (L : α → Nat) (Sx : α → Slots) (Hx : α → Heap) (p : α → Prop) (x0 : α) (h0 : p x0) (hs : Sub (Sx x0) S) (hH : H = Hx x0)
    (h : ∀ x, p x → ∀ Q' : Exit → Act → World → Prop, (∀ y, p y → L y < L x → ∀ a w, AgreeD [] N (Sx y) a → Cls w0 I (Hx y) w → Q' .normal a w) → (∀ e a w, e ≠ .normal → Q e a w → Q' e a w) → CW N w0 I c Q' (Sx x) (Hx x)) : CW N w0 I (.loop c) Q S H := fun a w ha hc => by
  subst hH
  refine wpIn_loop_rel L (fun x a w => p x ∧ AgreeD [] N (Sx x) a ∧ Cls w0 I (Hx x) w) ⟨h0, ha.sub hs, hc⟩ fun x a w ⟨hp, hA, hC⟩ => ?_
  refine h x hp _ (fun y hy hlt a' w' hA' hC' => ⟨y, ⟨hy, hA', hC'⟩, hlt⟩) (fun e a w he hq => ?_) a w hA hC
  cases e <;> first | exact absurd rfl he | exact hq
theorem calls_of_CW {f : FuncId} {fn : Func} {c : Code} {args : Array Value} {w : World} {R : Ending → World → Prop} (hf : Try.prog.funcs[f]? = some fn) (hb : fn.body = some c) (hN : fn.ntmps = N) (hsz : Nat.ble args.size N = true) (hS : ∀ p ∈ S, args[p.1]? = some p.2)
    (hc : Cls w0 I H w) (h : CW N w0 I c (bodyPost Try.prog fn R) S H) : Calls Try.prog f args w R :=
  callsIn_wide.1 (callsIn_of_CI wide_wide rfl hf hb hN hsz hS hc h)
end
def wnB (ops : Array Oper) (S : Slots) (o : Oper) : Option Bool := match o.guard with
  | none => some true
  | some (j, want) => match (ops[j]?).bind (·.dst) with
    | none => none
    | some t => match HW.get S t with
      | some (.bool p) => some (p == want)
      | _ => none
theorem wo {ops : Array Oper} {S : Slots} {o : Oper} {b : Bool} (h : wnB ops S o = some b) : Wn ops S o b := by
  unfold wnB at h
  cases hg : o.guard with
  | none => rw [hg] at h; cases h; exact Wn.none hg
  | some q =>
    obtain ⟨j, want⟩ := q
    rw [hg] at h
    simp only at h
    cases hj : (ops[j]?).bind (·.dst) with
    | none => rw [hj] at h; cases h
    | some t =>
      rw [hj] at h
      simp only at h
      cases ht : HW.get S t with
      | none => rw [ht] at h; cases h
      | some v =>
        rw [ht] at h
        cases v with
        | bool p => simp only [Option.some.injEq] at h; exact Wn.some hg hj ht h
        | _ => cases h
def nfB : Op → Bool
  | .defer _ => false
  | _ => true
theorem nf {o : Oper} (h : nfB o.op = true) : ∀ c, o.op ≠ .defer c := fun c e => by rw [e] at h; cases h

end Go.Proofs.Ytjomnicfcdkfdaa
namespace Go.Proofs.Ytjomnicfcdkfdaa
open Go Go.HW Go.RowKit
set_option linter.unusedVariables false
/-! #### regions that draw their order -/
section
variable {N : Nat} {S : Slots} {w0 w1 : World} {I : Mem} {H : Heap} {Q : Exit → Act → World → Prop} {Qn : Act → Heap → Prop} {ops : Array Oper} {lab : Lab} {ids : Nat → Option Nat} {l : List Nat} {i d : Nat} {o : Oper} {v : Value}
abbrev DD (N : Nat) (w0 : World) (I : Mem) (ops : Array Oper) (lab : Lab) (ids : Nat → Option Nat) (Q : Act → Heap → Prop) (l : List Nat) (S : Slots) (H : Heap) : Prop := DE Try.prog [] N w0 I ops lab ids Q l S H
theorem DW.pure (hi : ops[i]? = some o) (hg : o.guard = none) (hd : o.dst = some d) (hN : Nat.blt d N = true) (hk : (lab i).1 = .pure) (hp : FPure Try.prog o S v) (h : DD N w0 I ops lab ids Qn l ((d, v) :: S) H) : DD N w0 I ops lab ids Qn (i :: l) S H :=
  DE.imm hi hg hd hN hk (fun ρ hρ w _ => hp ρ hρ w) h
theorem DW.imm (hi : ops[i]? = some o) (hg : o.guard = none) (hd : o.dst = some d) (hN : Nat.blt d N = true) (hk : (lab i).1 = .pure) (hp : FImm Try.prog o I S v) (h : DD N w0 I ops lab ids Qn l ((d, v) :: S) H) : DD N w0 I ops lab ids Qn (i :: l) S H :=
  DE.imm hi hg hd hN hk hp h
theorem DW.quiet (hi : ops[i]? = some o) (hg : o.guard = none) (hd : o.dst = some d) (hN : Nat.blt d N = true) (hk : (lab i).1 = .quiet) (hp : FQuiet Try.prog o w0 I S H v) (h : DD N w0 I ops lab ids Qn l ((d, v) :: S) H) : DD N w0 I ops lab ids Qn (i :: l) S H := fun a ha => by
  show stepD Try.prog ops w0 I lab ids i _ a H
  unfold stepD
  rw [hi]
  intro _
  exact ⟨.val v, .inl ⟨by simp [Region.wanted, hg], .inr (.inl ⟨hk, fun w hc => hp _ ha.val w hc⟩)⟩, by show listD _ _ _ _ _ _ _ _ _ _; rw [hd]; exact h _ (ha.put (by simpa [Nat.blt_eq] using hN) v)⟩
theorem DW.new {ob : Obj} {mk : Nat → Value} (hi : ops[i]? = some o) (hg : o.guard = none) (hd : o.dst = some d) (hN : Nat.blt d N = true) (hk : (lab i).1 = .alloc) (hp : FNew Try.prog o S ob mk)
    (h : ∀ b, w0.heap.size ≤ b → DD N w0 I ops lab ids Qn l ((d, mk b) :: S) ((some b, ob) :: H)) : DD N w0 I ops lab ids Qn (i :: l) S H := fun a ha => by
  show stepD Try.prog ops w0 I lab ids i _ a H
  unfold stepD
  rw [hi]
  intro _
  exact ⟨.new ob mk, .inl ⟨by simp [Region.wanted, hg], hk, hp _ ha.val⟩, fun b hb => by show listD _ _ _ _ _ _ _ _ _ _; rw [hd]; exact h b hb _ (ha.put (by simpa [Nat.blt_eq] using hN) (mk b))⟩
theorem DW.actx {X : Type} {u : X → Value} {H' : X → Heap} (hi : ops[i]? = some o) (hg : o.guard = none) (hd : o.dst = some d) (hN : Nat.blt d N = true) (hk : (lab i).1 = .actx) (hp : FAct Try.prog o w0 I S H X u H')
    (h : ∀ x, DD N w0 I ops lab ids Qn l ((d, u x) :: S) (H' x)) : DD N w0 I ops lab ids Qn (i :: l) S H := fun a ha => by
  show stepD Try.prog ops w0 I lab ids i _ a H
  unfold stepD
  rw [hi]
  intro _
  exact ⟨.act X u H', .inl ⟨by simp [Region.wanted, hg], .inr (.inl hk), fun w hc => hp _ ha.val w hc⟩, fun x => by show listD _ _ _ _ _ _ _ _ _ _; rw [hd]; exact h x _ (ha.put (by simpa [Nat.blt_eq] using hN) (u x))⟩
theorem DW.look {x b : Nat} {ob : Obj} (hi : ops[i]? = some o) (hg : o.guard = none) (hd : o.dst = some d) (hN : Nat.blt d N = true) (hk : (lab i).1 = .look) (hx : (lab i).2 = some x) (hb : ids x = some b) (hm : (some b, ob) ∈ H)
    (hp : ∀ ρ, Val S ρ → ∀ w, w.heap[b]? = some ob → (execOp ρ o).run Try.prog w = .ok (.value v) w) (h : DD N w0 I ops lab ids Qn l ((d, v) :: S) H) : DD N w0 I ops lab ids Qn (i :: l) S H := fun a ha => by
  show stepD Try.prog ops w0 I lab ids i _ a H
  unfold stepD
  rw [hi]
  intro _
  exact ⟨.val v, .inl ⟨by simp [Region.wanted, hg], .inr (.inr ⟨hk, x, b, ob, hx, hb, hm, fun w hc => hp _ ha.val w hc⟩)⟩, by show listD _ _ _ _ _ _ _ _ _ _; rw [hd]; exact h _ (ha.put (by simpa [Nat.blt_eq] using hN) v)⟩
theorem DW.keep {X : Type} {u : X → Value} {H' : X → Heap} (hkeep : ∀ x p, p ∈ H → p ∈ H' x) (hi : ops[i]? = some o) (hg : o.guard = none) (hd : o.dst = some d) (hN : Nat.blt d N = true) (hk : (lab i).1 = .keep) (hp : FAct Try.prog o w0 I S H X u H')
    (h : ∀ x, DD N w0 I ops lab ids Qn l ((d, u x) :: S) (H' x)) : DD N w0 I ops lab ids Qn (i :: l) S H := fun a ha => by
  show stepD Try.prog ops w0 I lab ids i _ a H
  unfold stepD
  rw [hi]
  intro _
  exact ⟨.act X u H', .inl ⟨by simp [Region.wanted, hg], .inr (.inr (.inl ⟨hk, hkeep⟩)), fun w hc => hp _ ha.val w hc⟩, fun x => by show listD _ _ _ _ _ _ _ _ _ _; rw [hd]; exact h x _ (ha.put (by simpa [Nat.blt_eq] using hN) (u x))⟩
/-- what a call does, as an operation -/
theorem f_callX {X : Type} {u : X → Value} {H' : X → Heap} {cl : Call} {fo : Operand} {g : FuncId} {args : Array Value} (ho : o.op = .call cl) (hcal : cl.callee = .value fo) (hf : ev S fo = some (.func (.func g) #[] #[])) (hargs : ∀ ρ, Val S ρ → cl.args.map ρ = args) (hbody : ∀ w, (callFunc g args).run Try.prog w = .ok (.enter g args) w)
    (hc : ∀ w, Cls w0 I H w → Calls Try.prog g args w fun e w' => ∃ x, e = .returned (u x) ∧ Cls w0 I (H' x) w') : FAct Try.prog o w0 I S H X u H' := fun ρ hρ w hcl => .inr (.inr ⟨g, args, w, by
    simp only [execOp, ho, resolve, hcal, hargs _ hρ]
    rw [hρ _ _ hf]
    show (callFunc g (#[] ++ args ++ #[])).run Try.prog w = _
    simpa using hbody w, hc w hcl⟩)
theorem DW.put {H' : Heap} (hi : ops[i]? = some o) (hg : o.guard = none) (hd : o.dst = none) (hk : (lab i).1 = .store) (hn : (lab i).2 = none) (hp : FPut Try.prog o w0 I S H H') (h : DD N w0 I ops lab ids Qn l S H') : DD N w0 I ops lab ids Qn (i :: l) S H := DE.put hi hg hd hk hn hp h
theorem C.regionD {id : Nat} (l m : List Nat) (ll : List (Kd × Option Nat)) (hB : okP ops (labOf ll) l m = true)
    (h : ∀ w1, Later w0 w1 → DD N w1 I ops (labOf ll) (idsOf H) (fun a H2 => ∀ w', Cls w1 I H2 w' → Q .normal a w') l S H) : CW N w0 I (.region id ops true) Q S H := fun a w ha hc =>
  wpIn_wide.2 (wp_region_D mixedT (okD_of_okP hB) ⟨fun a H1 H2 hp h w' hc => h w' (hc.perm hp.symm), fun a H h w' hc => absurd ⟨w', hc⟩ h⟩ (fun a H w' hc hq => hq w' hc) hc (h w ⟨hc.os, hc.tape, hc.output, hc.size⟩ a ha))
theorem DW.doneQ {y : Code} {Q2 : Exit → Act → World → Prop} (hl : Later w0 w1) (hQ : Q .normal = y.wpIn Fence.wide 3 Try.prog Q2) (h : CW N w0 I y Q2 S H) : DD N w1 I ops lab ids (fun a H2 => ∀ w', Cls w1 I H2 w' → Q .normal a w') [] S H := fun a ha w' hc => by rw [hQ]; exact h a w' ha (hc.later hl)
theorem DW.end' (hl : Later w0 w1) (h : ∀ a w', AgreeD [] N S a → Cls w0 I H w' → Q .normal a w') : DD N w1 I ops lab ids (fun a H2 => ∀ w', Cls w1 I H2 w' → Q .normal a w') [] S H := fun a ha w' hc => h a w' ha (hc.later hl)
theorem C.exit {id : Nat} (h : ∀ a w, AgreeD [] N S a → Cls w0 I H w → Q (.exit id) a w) : CW N w0 I (.exit id) Q S H := fun a w ha hc => wpIn_exit (h a w ha hc)
theorem C.skipE (h : ∀ a w, AgreeD [] N S a → Cls w0 I H w → Q .normal a w) : CW N w0 I .skip Q S H := fun a w ha hc => wpIn_skip (h a w ha hc)
/-- a piece with more than one way through it -/
theorem C.join {c y : Code} {Q2 : Exit → Act → World → Prop} (S2 : Slots) (H2 : Heap) (hQ : Q .normal = y.wpIn Fence.wide 3 Try.prog Q2)
    (h : ∀ Q' : Exit → Act → World → Prop, (∀ a w, AgreeD [] N S2 a → Cls w0 I H2 w → Q' .normal a w) → CW N w0 I c Q' S H) (hy : CW N w0 I y Q2 S2 H2) : CW N w0 I c Q S H := fun a w ha hc =>
  wpIn_mono (h (fun e a w => e = .normal ∧ AgreeD [] N S2 a ∧ Cls w0 I H2 w) (fun a w ha hc => ⟨rfl, ha, hc⟩) a w ha hc) fun e a w ⟨he, ha, hc⟩ => by
    subst he; rw [hQ]; exact hy a w ha hc
/-- a loop in its block, and what stands behind -/
theorem C.loopB {id : Nat} {c y : Code} {Q2 : Exit → Act → World → Prop} {α : Type} (L : α → Nat) (Sx : α → Slots) (Hx : α → Heap) (p : α → Prop) (x0 : α) (h0 : p x0) (hs : Sub (Sx x0) S) (hH : H = Hx x0)
    (hQ : Q .normal = y.wpIn Fence.wide 3 Try.prog Q2) (e : α → Prop)
    (h : ∀ x, p x → ∀ Q' : Exit → Act → World → Prop, (∀ y, p y → L y < L x → ∀ a w, AgreeD [] N (Sx y) a → Cls w0 I (Hx y) w → Q' .normal a w) → (e x → ∀ a w, AgreeD [] N (Sx x) a → Cls w0 I (Hx x) w → Q' (.exit id) a w) → (∀ a w, Q .ret a w → Q' .ret a w) → CW N w0 I c Q' (Sx x) (Hx x)) (hy : ∀ x, p x → e x → CW N w0 I y Q2 (Sx x) (Hx x)) : CW N w0 I (.block id (.loop c)) Q S H := by
  refine C.block ?_
  refine C.loop L Sx Hx p x0 h0 hs hH fun x hp Q' hn he => ?_
  refine h x hp Q' hn (fun hx a w ha hc => he _ a w (by simp) ?_) (fun a w hq => he _ a w (by simp) hq)
  show Exit.inBlock id Q (.exit id) a w
  simp only [Exit.inBlock, if_true]
  rw [hQ]
  exact hy x hp hx a w ha hc
end
end Go.Proofs.Ytjomnicfcdkfdaa
