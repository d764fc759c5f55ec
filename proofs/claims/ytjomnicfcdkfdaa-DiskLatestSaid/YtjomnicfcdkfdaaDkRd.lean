import Derived.Test.YtjomnicfcdkfdaaDkBase
import Derived.RangeFuncNested
import Derived.RangeFuncLeaves
import Derived.RangeFuncBound
import Derived.WalkKit
import Derived.Handy
namespace Go.Proofs.Ytjomnicfcdkfdaa
open Go Go.HW Go.RowKit
set_option linter.unusedVariables false
set_option linter.unusedSimpArgs false

/-! ### the same rules, where the body of a loop over a function may stand -/
def AgreeD (D : List Deferred) (N : Nat) (S : Slots) (a : Act) : Prop := a.defers = D ∧ a.tmps.size = N ∧ ∀ i v, HW.get S i = some v → a.tmps[i]? = some v
section
variable {D : List Deferred} {N : Nat} {S : Slots} {a : Act} {F : Fence} {n : Nat} {P : Program} {w0 : World} {I : Mem} {H : Heap} {Q : Exit → Act → World → Prop} {ops : Array Oper} {l : List Nat} {i d : Nat} {o : Oper} {v : Value}
theorem AgreeD.val (h : AgreeD D N S a) : Val S a.eval := fun x v hx => by
  cases x with
  | tmp t => have := h.2.2 t v hx; simp [Act.eval, this]
  | const u => exact Option.some.inj hx
  | global g => exact Option.some.inj hx
  | func g => exact Option.some.inj hx
theorem AgreeD.put (h : AgreeD D N S a) {d : Nat} (hd : d < N) (v : Value) : AgreeD D N ((d, v) :: S) (a.put (some d) v) := by
  obtain ⟨h1, h2, h3⟩ := h
  refine ⟨h1, by simp [Act.put, h2], fun i u hi => ?_⟩
  simp only [HW.get] at hi
  simp only [Act.put]
  split at hi
  · rename_i hb
    have : d = i := Nat.eq_of_beq_eq_true hb
    subst this
    cases hi
    rw [Array.getElem?_setIfInBounds_self_of_lt (by omega)]
  · rename_i hb
    have : d ≠ i := Nat.ne_of_beq_eq_false hb
    rw [Array.getElem?_setIfInBounds_ne this]
    exact h3 i u hi

structure Wide (F : Fence) : Prop where
  fn : ∀ f, F.fn f
  depth : F.depth = none
theorem wide_wide : Wide Fence.wide := ⟨fun _ => trivial, rfl⟩
theorem Wide.round (h : Wide F) (l : Nat) : Wide (F.inRound l) := ⟨h.fn, h.depth⟩

/-- A code, from slots and a class of worlds. -/
def CI (F : Fence) (n : Nat) (P : Program) (D : List Deferred) (N : Nat) (w0 : World) (I : Mem) (c : Code) (Q : Exit → Act → World → Prop) (S : Slots) (H : Heap) : Prop :=
  ∀ a w, AgreeD D N S a → Cls w0 I H w → c.wpIn F n P Q a w
def WI (F : Fence) (n : Nat) (P : Program) (D : List Deferred) (N : Nat) (w0 : World) (I : Mem) (ops : Array Oper) (l : List Nat) (Q : Exit → Act → World → Prop) (S : Slots) (H : Heap) : Prop :=
  ∀ a w, AgreeD D N S a → Cls w0 I H w → wpOpsIn F n P ops Q l a w
theorem opsIn_go (hF : Wide F) (hi : ops[i]? = some o) (hg : o.guard = none) (hnd : ∀ c, o.op ≠ .defer c) {w : World} (h : o.uponIn F n P a (wpOpsIn F n P ops Q l) Q ((execOp a.eval o).run P w)) : wpOpsIn F n P ops Q (i :: l) a w := by
  unfold wpOpsIn
  rw [hi]
  simp only [Region.wanted, hg, if_true]
  exact ⟨fun f _ => hF.fn f, by rw [Oper.semAt_eq _ _ _ hnd]; exact h⟩
theorem CI.region {id m : Nat} {ops : Array Oper} (hm : ops.size = m) (h : WI F n P D N w0 I ops (List.range m) Q S H) : CI F n P D N w0 I (.region id ops false) Q S H := fun a w ha hc =>
  wpIn_region (by rw [hm]; exact h a w ha hc)
theorem CI.seq {x y : Code} (h : CI F n P D N w0 I x (Exit.then (y.wpIn F n P Q) Q) S H) : CI F n P D N w0 I (.seq x y) Q S H := fun a w ha hc => wpIn_seq (h a w ha hc)
theorem WI.nil {K : Act → World → Prop} (h : ∀ a w, AgreeD D N S a → Cls w0 I H w → K a w) : WI F n P D N w0 I ops [] (Exit.then K Q) S H := fun a w ha hc => h a w ha hc
theorem WI.nil' (h : ∀ a w, AgreeD D N S a → Cls w0 I H w → Q .normal a w) : WI F n P D N w0 I ops [] Q S H := fun a w ha hc => h a w ha hc
theorem WI.imm (hF : Wide F) (hi : ops[i]? = some o) (hg : o.guard = none) (hnd : ∀ c, o.op ≠ .defer c) (hd : o.dst = some d) (hN : Nat.blt d N = true) (hp : FImm P o I S v) (h : WI F n P D N w0 I ops l Q ((d, v) :: S) H) : WI F n P D N w0 I ops (i :: l) Q S H := fun a w ha hc =>
  opsIn_go hF hi hg hnd (by rw [hp _ ha.val w hc.imm]; show wpOpsIn _ _ _ _ _ _ _ _; rw [hd]; exact h _ _ (ha.put (by simpa [Nat.blt_eq] using hN) v) hc)
theorem WI.pure (hF : Wide F) (hi : ops[i]? = some o) (hg : o.guard = none) (hnd : ∀ c, o.op ≠ .defer c) (hd : o.dst = some d) (hN : Nat.blt d N = true) (hp : FPure P o S v) (h : WI F n P D N w0 I ops l Q ((d, v) :: S) H) : WI F n P D N w0 I ops (i :: l) Q S H :=
  WI.imm hF hi hg hnd hd hN (fun ρ hρ w _ => hp ρ hρ w) h
theorem WI.new {ob : Obj} {mk : Nat → Value} (hF : Wide F) (hi : ops[i]? = some o) (hg : o.guard = none) (hnd : ∀ c, o.op ≠ .defer c) (hd : o.dst = some d) (hN : Nat.blt d N = true) (hp : FNew P o S ob mk)
    (h : ∀ b, w0.heap.size ≤ b → WI F n P D N w0 I ops l Q ((d, mk b) :: S) ((some b, ob) :: H)) : WI F n P D N w0 I ops (i :: l) Q S H := fun a w ha hc =>
  opsIn_go hF hi hg hnd (by rw [hp _ ha.val w]; show wpOpsIn _ _ _ _ _ _ _ _; rw [hd]; exact h _ hc.size _ _ (ha.put (by simpa [Nat.blt_eq] using hN) _) (hc.alloc ob))
theorem WI.put {H' : Heap} (hF : Wide F) (hi : ops[i]? = some o) (hg : o.guard = none) (hnd : ∀ c, o.op ≠ .defer c) (hd : o.dst = none) (hp : FPut P o w0 I S H H') (h : WI F n P D N w0 I ops l Q S H') : WI F n P D N w0 I ops (i :: l) Q S H := fun a w ha hc => by
  obtain ⟨w', hr, hc'⟩ := hp _ ha.val w hc
  exact opsIn_go hF hi hg hnd (by rw [hr]; show wpOpsIn _ _ _ _ _ _ _ _; rw [hd]; exact h _ _ ha hc')
/-- .. a call of a function -/
theorem WI.call {cl : Call} {fo : Operand} {g : FuncId} {args : Array Value} {H' : Value → Heap} {p : Value → Prop} (hF : Wide F) (hi : ops[i]? = some o) (hg : o.guard = none) (hd : o.dst = some d) (hN : Nat.blt d N = true)
    (ho : o.op = .call cl) (hcal : cl.callee = .value fo) (hf : ev S fo = some (.func (.func g) #[] #[])) (hargs : ∀ ρ, Val S ρ → cl.args.map ρ = args) (hbody : ∀ w, (callFunc g args).run P w = .ok (.enter g args) w)
    (hc : ∀ w, Cls w0 I H w → CallsIn F (n - 1) P g args w fun e w' => ∃ v, e = .returned v ∧ p v ∧ Cls w0 I (H' v) w') (h : ∀ v, p v → WI F n P D N w0 I ops l Q ((d, v) :: S) (H' v)) : WI F n P D N w0 I ops (i :: l) Q S H := fun a w ha hcl =>
  opsIn_go hF hi hg (fun c hx => by rw [ho] at hx; cases hx) (by
    have e : (execOp a.eval o).run P w = .ok (.enter g args) w := by
      simp only [execOp, ho, resolve, hcal, hargs _ ha.val]
      rw [ha.val _ _ hf]
      show (callFunc g (#[] ++ args ++ #[])).run P w = _
      simpa using hbody w
    rw [e, Oper.uponIn_enter]
    refine ⟨fun hx => (by rw [hF.depth] at hx; cases hx), (hc w hcl).mono fun en w' ⟨v, he, hv, hc'⟩ => ?_⟩
    subst he
    show wpOpsIn _ _ _ _ _ _ _ _
    rw [hd]
    exact h v hv _ _ (ha.put (by simpa [Nat.blt_eq] using hN) v) hc')
end

/-! ### slices.Backward -/
abbrev W5 := { x : Wr // x.2.length = 512 }
def w5d : W5 := ⟨(0, zeros), List.length_replicate⟩
theorem en51 (args : Array Value) (w : World) : (callFunc 51 args).run Try.prog w = .ok (.enter 51 args) w := by kernel_rfl
theorem en47 (args : Array Value) (w : World) : (callFunc 47 args).run Try.prog w = .ok (.enter 47 args) w := by kernel_rfl
theorem tu59 (w : World) : (underlying 59).run Try.prog w = .ok (.slice 64) w := by kernel_rfl
theorem ts64 (w : World) : (sizeOf 64).run Try.prog w = .ok 513 w := by kernel_rfl
theorem ta64 (w : World) : (isAgg 64).run Try.prog w = .ok true w := by kernel_rfl
theorem ta59 (w : World) : (isAgg 59).run Try.prog w = .ok false w := by kernel_rfl
noncomputable def B51 : Code := bodyOf Try.f51
noncomputable def B47 : Code := bodyOf Try.f47
noncomputable def B38 : Code := bodyOf Try.f38
theorem nt51 : Try.f51.ntmps = 19 := by kernel_rfl
theorem nt47 : Try.f47.ntmps = 4 := by kernel_rfl
theorem nt38 : Try.f38.ntmps = 26 := by kernel_rfl
theorem bd51 : Try.f51.body = some B51 := by kernel_rfl
theorem bd47 : Try.f47.body = some B47 := by kernel_rfl
theorem bd38 : Try.f38.body = some B38 := by kernel_rfl
/-- a function's body, walked -/
theorem callsIn_of_CI {F : Fence} {n N : Nat} {P : Program} {f : FuncId} {fn : Func} {c : Code} {args : Array Value} {w w0 : World} {I : Mem} {H : Heap} {S : Slots} {R : Ending → World → Prop} (hF : Wide F) (hro : F.round = none) (hf : P.funcs[f]? = some fn) (hb : fn.body = some c) (hN : fn.ntmps = N) (hsz : Nat.ble args.size N = true) (hS : ∀ p ∈ S, args[p.1]? = some p.2)
    (hc : Cls w0 I H w) (h : CI F n P [] N w0 I c (bodyPost P fn R) S H) : CallsIn F n P f args w R := by
  refine callsIn_of_wp hf hb (hF.fn _) (h _ _ ⟨rfl, ?_, fun i v hi => ?_⟩ hc) hro
  · have := Nat.le_of_ble_eq_true hsz
    simp; omega
  · have := hS (i, v) (get_mem hi)
    simp only at this ⊢
    rw [Array.getElem?_append_left (lt_of_get this)]; exact this
theorem CI.ret {F : Fence} {n N : Nat} {P : Program} {f : FuncId} {fn : Func} {w0 : World} {I : Mem} {H : Heap} {S : Slots} {R : Ending → World → Prop} {rs : List ResultVar} {vs : List Value} {v : Value} (hf : P.funcs[f]? = some fn) (hrs : fn.results = rs.toArray) (hl : rs.length = vs.length)
    (hv : (if h : vs.toArray.size = 1 then vs.toArray[0] else .tuple vs.toArray) = v) (hall : ∀ (i : Nat) (r : ResultVar) (u : Value), rs[i]? = some r → vs[i]? = some u → ResV P N w0 I S H r u) (hR : ∀ w, Cls w0 I H w → R (.returned v) w) :
    CI F n P [] N w0 I .ret (bodyPost P fn R) S H := fun a w ha hc => by
  refine wpIn_ret ?_
  obtain ⟨hd, fn', v', hf', hr, hR'⟩ := fin_of (P := P) (f := f) (N := N) (R := R) v hf hrs hl hv hall (show Agree N S a from ha) hc (hR w hc)
  rw [hf] at hf'; cases hf'
  exact ⟨hd, v', hr, hR'⟩
/-- slices.Backward: the slice is boxed; the closure bears the box. -/
theorem back_ok {F : Fence} {n : Nat} (hF : Wide F) (hro : F.round = none) (v : Value) (hv : v.cells = #[v]) {w w0 : World} {I : Mem} {H : Heap} (hc : Cls w0 I H w) :
    CallsIn F n Try.prog 47 #[v] w fun e w' => ∃ b, e = .returned (.func (.func 51) #[] #[ptr b 0]) ∧ w0.heap.size ≤ b ∧ Cls w0 I ((some b, .cells #[v] 59) :: H) w' := by
  refine callsIn_of_CI hF hro Try.func47 bd47 nt47 rfl (S := [(0, v)]) (by simp) hc ?_
  show CI F n Try.prog [] 4 w0 I (sub [] B47) _ _ _
  refine CI.seq (x := sub [0] B47) (y := sub [1] B47) ?_
  refine CI.region (id := 0) (m := 2) (ops := opsOf (sub [0] B47)) rfl ?_
  show WI _ _ _ _ _ _ _ _ [0, 1] _ _ _
  refine WI.new (o := opAt (opsOf (sub [0] B47)) 0) (d := 1) hF rfl rfl (fun c h => by cases h) rfl rfl (f_boxSl hv rfl rfl) ?_
  intro b hb
  refine WI.pure (o := opAt (opsOf (sub [0] B47)) 1) (d := 2) hF rfl rfl (fun c h => by cases h) rfl rfl (p_assign (v := .nilFunc) rfl rfl) ?_
  refine WI.nil ?_
  show CI F n Try.prog [] 4 w0 I (sub [1] B47) _ _ _
  refine CI.seq (x := sub [1, 0] B47) (y := sub [1, 1] B47) ?_
  refine CI.region (id := 1) (m := 2) (ops := opsOf (sub [1, 0] B47)) rfl ?_
  show WI _ _ _ _ _ _ _ _ [0, 1] _ _ _
  refine WI.pure (o := opAt (opsOf (sub [1, 0] B47)) 0) (d := 3) hF rfl rfl (fun c h => by cases h) rfl rfl (p_makeFunc (caps := #[ptr b 0]) rfl (args_val (vs := [ptr b 0]) rfl)) ?_
  refine WI.pure (o := opAt (opsOf (sub [1, 0] B47)) 1) (d := 2) hF rfl rfl (fun c h => by cases h) rfl rfl (p_assign rfl rfl) ?_
  refine WI.nil ?_
  show CI F n Try.prog [] 4 w0 I .ret _ _ _
  exact CI.ret (f := 47) (rs := [.tmp 2]) (vs := [.func (.func 51) #[] #[ptr b 0]]) Try.func47 rfl rfl rfl (res_cons (ResV.tmp rfl) res_nil) fun w hc => ⟨b, rfl, hb, hc⟩

/-! .. where the world is told -/
section
variable {D : List Deferred} {N : Nat} {S : Slots} {F : Fence} {n : Nat} {P : Program} {M : Mem} {w : World} {Q : Exit → Act → World → Prop} {ops : Array Oper} {l : List Nat} {i d : Nat} {o : Oper} {v : Value}
def CX (F : Fence) (n : Nat) (P : Program) (D : List Deferred) (N : Nat) (w : World) (c : Code) (Q : Exit → Act → World → Prop) (S : Slots) : Prop := ∀ a, AgreeD D N S a → c.wpIn F n P Q a w
def WX (F : Fence) (n : Nat) (P : Program) (D : List Deferred) (N : Nat) (w : World) (ops : Array Oper) (l : List Nat) (Q : Exit → Act → World → Prop) (S : Slots) : Prop := ∀ a, AgreeD D N S a → wpOpsIn F n P ops Q l a w
theorem CX.region {id m : Nat} {ops : Array Oper} (hm : ops.size = m) (h : WX F n P D N w ops (List.range m) Q S) : CX F n P D N w (.region id ops false) Q S := fun a ha => wpIn_region (by rw [hm]; exact h a ha)
theorem CX.seq {x y : Code} (h : CX F n P D N w x (Exit.then (y.wpIn F n P Q) Q) S) : CX F n P D N w (.seq x y) Q S := fun a ha => wpIn_seq (h a ha)
theorem WX.nil {K : Act → World → Prop} (h : ∀ a, AgreeD D N S a → K a w) : WX F n P D N w ops [] (Exit.then K Q) S := fun a ha => h a ha
theorem WX.imm (hI : Imm M w) (hF : Wide F) (hi : ops[i]? = some o) (hg : o.guard = none) (hnd : ∀ c, o.op ≠ .defer c) (hd : o.dst = some d) (hN : Nat.blt d N = true) (hp : FImm P o M S v) (h : WX F n P D N w ops l Q ((d, v) :: S)) : WX F n P D N w ops (i :: l) Q S := fun a ha =>
  opsIn_go hF hi hg hnd (by rw [hp _ ha.val w hI]; show wpOpsIn _ _ _ _ _ _ _ _; rw [hd]; exact h _ (ha.put (by simpa [Nat.blt_eq] using hN) v))
theorem WX.pure (hF : Wide F) (hi : ops[i]? = some o) (hg : o.guard = none) (hnd : ∀ c, o.op ≠ .defer c) (hd : o.dst = some d) (hN : Nat.blt d N = true) (hp : FPure P o S v) (h : WX F n P D N w ops l Q ((d, v) :: S)) : WX F n P D N w ops (i :: l) Q S :=
  WX.imm (M := fun _ => none) (fun _ _ e => by cases e) hF hi hg hnd hd hN (fun ρ hρ w _ => hp ρ hρ w) h
theorem AgreeD.sub {S' : Slots} {a : Act} (h : AgreeD D N S a) (hs : Sub S' S) : AgreeD D N S' a := ⟨h.1, h.2.1, fun i v hi => h.2.2 i v (hs (i, v) (get_mem hi))⟩
end
def upto {α : Type} (f : Nat → α) (k : Nat) : List α := (List.range k).map f
theorem upto_succ {α : Type} (f : Nat → α) (k : Nat) : upto f (k + 1) = upto f k ++ [f k] := by simp [upto, List.range_succ]
theorem upto_length {α : Type} (f : Nat → α) (k : Nat) : (upto f k).length = k := by simp [upto]
def bk (zs : List W5) (j : Nat) : Int × W5 := ((zs.length : Int) - 1 - j, zs.getD (zs.length - 1 - j) w5d)
theorem w64 {n : Int} (h0 : -9223372036854775808 ≤ n) (h1 : n ≤ 9223372036854775807) : IntKind.i64.wrap n = n := IntWalk.i64_in n ⟨h0, h1⟩
theorem WX.call {D : List Deferred} {N : Nat} {S : Slots} {F : Fence} {n : Nat} {P : Program} {w : World} {Q : Exit → Act → World → Prop} {ops : Array Oper} {l : List Nat} {i d : Nat} {o : Oper} {cl : Call} {fo : Operand} {ly : Nat} {args : Array Value} {fn : FuncId} {tmps : Array Value} {asg bdy : Code}
    (hF : Wide F) (hi : ops[i]? = some o) (hg : o.guard = none) (hd : o.dst = some d) (hN : Nat.blt d N = true) (ho : o.op = .call cl) (hcal : cl.callee = .value fo) (hf : ev S fo = some (.func (.yield ly) #[] #[])) (hargs : ∀ ρ, Val S ρ → cl.args.map ρ = args)
    (hy : (Instr.yield ly args).run P w = .ok (.round ly fn tmps asg bdy) w) {R : Ending → World → Prop} (hR : RoundIn F (n - 1) P ly fn tmps asg bdy w R) (h : ∀ a en w', AgreeD D N S a → R en w' → ∃ v, en = .returned v ∧ wpOpsIn F n P ops Q l (a.put (some d) v) w') : WX F n P D N w ops (i :: l) Q S := fun a ha =>
  opsIn_go hF hi hg (fun c hx => by rw [ho] at hx; cases hx) (by
    have e : (execOp a.eval o).run P w = .ok (.round ly fn tmps asg bdy) w := by
      simp only [execOp, ho, resolve, hcal, hargs _ ha.val]
      rw [ha.val _ _ hf]
      show (Instr.yield ly (#[] ++ args)).run P w = _
      simpa using hy
    rw [e, Oper.uponIn_round]
    refine ⟨fun hx => (by rw [hF.depth] at hx; cases hx), hR.mono fun en w' hr => ?_⟩
    obtain ⟨v, rfl, hw⟩ := h a en w' ha hr
    show wpOpsIn _ _ _ _ _ _ _ _
    rw [hd]; exact hw)
theorem callsIn_of_CX {F : Fence} {n N : Nat} {P : Program} {f : FuncId} {fn : Func} {c : Code} {args : Array Value} {w : World} {S : Slots} {R : Ending → World → Prop} (hF : Wide F) (hro : F.round = none) (hf : P.funcs[f]? = some fn) (hb : fn.body = some c) (hN : fn.ntmps = N) (hsz : Nat.ble args.size N = true) (hS : ∀ p ∈ S, args[p.1]? = some p.2)
    (h : CX F n P [] N w c (bodyPost P fn R) S) : CallsIn F n P f args w R := by
  refine callsIn_of_wp hf hb (hF.fn _) (h _ ⟨rfl, ?_, fun i v hi => ?_⟩) hro
  · have := Nat.le_of_ble_eq_true hsz
    simp; omega
  · have := hS (i, v) (get_mem hi)
    simp only at this ⊢
    rw [Array.getElem?_append_left (lt_of_get this)]; exact this
theorem back1 {F : Fence} {n : Nat} (hF : Wide F) (hro : F.round = none) (l Bs n₀ : Nat) (v : Value) (zs : List W5) (hz : zs.length ≤ 1099511627776) (J Jx : List (Int × W5) → World → Prop)
    (hY : ∀ pre x W, J pre W → pre.length < zs.length → YieldAt F (n - 1) Try.prog l #[.int .i64 x.1, .agg (wrc x.2.1)] W fun e W' => (e = .returned (.bool true) ∧ J (pre ++ [x]) W' ∧ Below n₀ W W') ∨ (e = .returned (.bool false) ∧ Jx (pre ++ [x]) W'))
    (W : World) (M : Mem) (hM : ∀ b o, M b = some o → b < n₀) (hW : Imm M W) (hBs : M Bs = some (.cells #[v] 59 (0, 0))) (hr : RowS ShWr M v (zs.map (·.1))) (h0 : J [] W) :
    CallsIn F n Try.prog 51 #[.func (.yield l) #[] #[], ptr Bs 0] W fun e W' => (∃ v, e = .returned v) ∧ (J (upto (bk zs) zs.length) W' ∨ ∃ k, k ≤ zs.length ∧ Jx (upto (bk zs) k) W') := by
  have hsl : ∃ a c, v = .slice a zs.length c := by simpa using hr.sl
  obtain ⟨cs, hcs, hch⟩ := id hr
  rw [List.length_map] at hcs
  have himm : ∀ W', Below n₀ W W' → Imm M W' := fun W' hb b o e => by rw [hb.block b (hM b o e)]; exact hW b o e
  let S0 : Slots := [(0, .func (.yield l) #[] #[]), (1, ptr Bs 0)]
  refine callsIn_of_CX hF hro Try.func51 bd51 nt51 rfl (S := S0) (by simp [S0]) ?_
  · show CX F n Try.prog [] 19 W (sub [] B51) _ S0
    refine CX.seq (x := sub [0] B51) (y := sub [1] B51) ?_
    refine CX.region (id := 0) (m := 4) (ops := opsOf (sub [0] B51)) rfl ?_
    show WX _ _ _ _ _ _ _ [0, 1, 2, 3] _ _
    refine WX.imm (o := opAt (opsOf (sub [0] B51)) 0) (d := 4) hW hF rfl rfl (fun c h => by cases h) rfl rfl (i_loadBox hBs rfl ta59 rfl rfl) ?_
    refine WX.pure (o := opAt (opsOf (sub [0] B51)) 1) (d := 5) hF rfl rfl (fun c h => by cases h) rfl rfl (p_slLen tu59 hsl rfl rfl) ?_
    refine WX.pure (o := opAt (opsOf (sub [0] B51)) 2) (d := 6) hF rfl rfl (fun c h => by cases h) rfl rfl (p_sub rfl rfl rfl) ?_
    refine WX.pure (o := opAt (opsOf (sub [0] B51)) 3) (d := 3) hF rfl rfl (fun c h => by cases h) rfl rfl (p_assign rfl rfl) ?_
    rw [w64 (by omega) (by omega)]
    refine WX.nil fun a ha => ?_
    refine wpIn_block (id := 0) (c := sub [1, 0] B51) ?_
    let Sk : Nat → Slots := fun k => [(0, .func (.yield l) #[] #[]), (1, ptr Bs 0), (3, .int .i64 ((zs.length : Int) - 1 - k))]
    refine wpIn_loop (c := sub [1, 0, 0] B51) (fun a w => ∃ k, k ≤ zs.length ∧ AgreeD [] 19 (Sk k) a ∧ Below n₀ W w ∧ J (upto (bk zs) k) w) (fun a _ => (intOf (a.tmps.getD 3 undef) + 1).toNat) ⟨0, Nat.zero_le _, ha.sub ?_, Below.refl _ _, h0⟩ ?_
    · exact Sub.cons rfl (Sub.cons rfl (Sub.cons (by simp [HW.get]) (Sub.nil _)))
    · rintro a w ⟨k, hk, hag, hb, hj⟩
      have hI := himm w hb
      have hmu : (intOf (a.tmps.getD 3 undef) + 1).toNat = zs.length - k := by
        have := hag.2.2 3 _ rfl
        rw [Array.getD_eq_getD_getElem?, this]
        show ((zs.length : Int) - 1 - k + 1).toNat = _
        omega
      refine (show CX F n Try.prog [] 19 w (sub [1, 0, 0] B51) _ (Sk k) from ?_) a hag
      refine CX.seq (x := sub [1, 0, 0, 0] B51) (y := sub [1, 0, 0, 1] B51) ?_
      refine CX.seq (x := sub [1, 0, 0, 0, 0] B51) (y := sub [1, 0, 0, 0, 1] B51) ?_
      refine CX.region (id := 1) (m := 2) (ops := opsOf (sub [1, 0, 0, 0, 0] B51)) rfl ?_
      show WX _ _ _ _ _ _ _ [0, 1] _ _
      refine WX.pure (o := opAt (opsOf (sub [1, 0, 0, 0, 0] B51)) 0) (d := 7) hF rfl rfl (fun c h => by cases h) rfl rfl (p_move rfl rfl) ?_
      refine WX.pure (o := opAt (opsOf (sub [1, 0, 0, 0, 0] B51)) 1) (d := 8) hF rfl rfl (fun c h => by cases h) rfl rfl (p_geq rfl rfl rfl) ?_
      refine WX.nil fun a1 ha1 => ?_
      by_cases hc : k < zs.length
      · refine wpIn_cond_true (c := .tmp 8) (x := sub [1, 0, 0, 0, 1, 0] B51) (y := sub [1, 0, 0, 0, 1, 1] B51) ?_ ?_
        · have := ha1.val (.tmp 8) _ rfl
          rw [this]
          congr 1
          exact decide_eq_true (by omega)
        refine wpIn_skip ?_
        show (sub [1, 0, 0, 1] B51).wpIn F n Try.prog _ a1 w
        refine wpIn_seq (x := sub [1, 0, 0, 1, 0] B51) (y := sub [1, 0, 0, 1, 1] B51) ?_
        refine wpIn_block (id := 1) (c := sub [1, 0, 0, 1, 0, 0] B51) ?_
        refine wpIn_seq (x := sub [1, 0, 0, 1, 0, 0, 0] B51) (y := sub [1, 0, 0, 1, 0, 0, 1] B51) ?_
        obtain ⟨fn, tmps, asg, bdy, hy, hR⟩ := hY (upto (bk zs) k) (bk zs k) w hj (by rw [upto_length]; exact hc)
        refine (show CX F n Try.prog [] 19 w (sub [1, 0, 0, 1, 0, 0, 0] B51) _ (Sk k) from ?_) a1 (ha1.sub (Sub.cons rfl (Sub.cons rfl (Sub.cons rfl (Sub.nil _)))))
        refine CX.region (id := 3) (m := 8) (ops := opsOf (sub [1, 0, 0, 1, 0, 0, 0] B51)) rfl ?_
        show WX _ _ _ _ _ _ _ [0, 1, 2, 3, 4, 5, 6, 7] _ _
        refine WX.pure (o := opAt (opsOf (sub [1, 0, 0, 1, 0, 0, 0] B51)) 0) (d := 11) hF rfl rfl (fun c h => by cases h) rfl rfl (p_move rfl rfl) ?_
        refine WX.pure (o := opAt (opsOf (sub [1, 0, 0, 1, 0, 0, 0] B51)) 1) (d := 12) hF rfl rfl (fun c h => by cases h) rfl rfl (p_move rfl rfl) ?_
        refine WX.imm (o := opAt (opsOf (sub [1, 0, 0, 1, 0, 0, 0] B51)) 2) (d := 13) hI hF rfl rfl (fun c h => by cases h) rfl rfl (i_loadBox hBs rfl ta59 rfl rfl) ?_
        refine WX.pure (o := opAt (opsOf (sub [1, 0, 0, 1, 0, 0, 0] B51)) 3) (d := 14) hF rfl rfl (fun c h => by cases h) rfl rfl (p_move rfl rfl) ?_
        have hi0 : (0 : Int) ≤ (zs.length : Int) - 1 - k := by omega
        have hi1 : (zs.length : Int) - 1 - k < (zs.length : Int) := by omega
        have hti : ((zs.length : Int) - 1 - k).toNat = zs.length - 1 - k := by omega
        refine WX.pure (o := opAt (opsOf (sub [1, 0, 0, 1, 0, 0, 0] B51)) 4) (d := 15) hF rfl rfl (fun c h => by cases h) rfl rfl (p_slIx tu59 ts64 (RowV.some hcs hi0 hi1) hi0 hi1 rfl rfl rfl) ?_
        rw [hti]
        have hx : (zs.map (·.1))[zs.length - 1 - k]? = some (zs.getD (zs.length - 1 - k) w5d).1 := by
          have hlt : zs.length - 1 - k < zs.length := by omega
          rw [List.getElem?_map, List.getElem?_eq_getElem hlt]
          simp [List.getElem?_eq_getElem hlt]
        have hchk := (hch _ _ hx).1
        refine WX.imm (o := opAt (opsOf (sub [1, 0, 0, 1, 0, 0, 0] B51)) 5) (d := 16) hI hF rfl rfl (fun c h => by cases h) rfl rfl (i_loadElA hcs hchk (by omega) ta64 ts64 rfl rfl) ?_
        refine WX.call (o := opAt (opsOf (sub [1, 0, 0, 1, 0, 0, 0] B51)) 6) (d := 17) (args := #[.int .i64 (bk zs k).1, .agg (wrc (bk zs k).2.1)]) hF rfl rfl rfl rfl rfl rfl rfl (args_val (vs := [.int .i64 (bk zs k).1, .agg (wrc (bk zs k).2.1)]) rfl) hy hR fun a2 en w2 ha2 hr2 => ?_
        rcases hr2 with ⟨rfl, hj2, hb2⟩ | ⟨rfl, hx2⟩
        · refine ⟨_, rfl, ?_⟩
          refine (show WX F n Try.prog [] 19 w2 _ [7] _ ((17, .bool true) :: Sk k) from ?_) _ ?_
          · refine WX.pure (o := opAt (opsOf (sub [1, 0, 0, 1, 0, 0, 0] B51)) 7) (d := 18) hF rfl rfl (fun c h => by cases h) rfl rfl (p_not rfl rfl) ?_
            refine WX.nil fun a3 ha3 => ?_
            refine wpIn_cond_false (c := .tmp 18) (x := sub [1, 0, 0, 1, 0, 0, 1, 0] B51) (y := sub [1, 0, 0, 1, 0, 0, 1, 1] B51) (ha3.val (.tmp 18) _ rfl) ?_
            refine wpIn_skip ?_
            show (sub [1, 0, 0, 1, 1] B51).wpIn F n Try.prog _ a3 w2
            refine (show CX F n Try.prog [] 19 w2 (sub [1, 0, 0, 1, 1] B51) _ (Sk k) from ?_) a3 (ha3.sub (Sub.cons rfl (Sub.cons rfl (Sub.cons rfl (Sub.nil _)))))
            refine CX.region (id := 2) (m := 3) (ops := opsOf (sub [1, 0, 0, 1, 1] B51)) rfl ?_
            show WX _ _ _ _ _ _ _ [0, 1, 2] _ _
            refine WX.pure (o := opAt (opsOf (sub [1, 0, 0, 1, 1] B51)) 0) (d := 9) hF rfl rfl (fun c h => by cases h) rfl rfl (p_move rfl rfl) ?_
            refine WX.pure (o := opAt (opsOf (sub [1, 0, 0, 1, 1] B51)) 1) (d := 10) hF rfl rfl (fun c h => by cases h) rfl rfl (p_sub rfl rfl rfl) ?_
            refine WX.pure (o := opAt (opsOf (sub [1, 0, 0, 1, 1] B51)) 2) (d := 3) hF rfl rfl (fun c h => by cases h) rfl rfl (p_assign rfl rfl) ?_
            rw [w64 (by omega) (by omega)]
            refine WX.nil fun a4 ha4 => ?_
            refine ⟨⟨k + 1, by omega, ha4.sub (Sub.cons rfl (Sub.cons rfl (Sub.cons ?_ (Sub.nil _)))), hb.trans hb2, by rw [upto_succ]; exact hj2⟩, ?_⟩
            · show some _ = some _
              congr 2; omega
            · have := ha4.2.2 3 _ rfl
              rw [hmu, Array.getD_eq_getD_getElem?, this]
              show ((zs.length : Int) - 1 - k - 1 + 1).toNat < _
              omega
          · exact (ha2.put (by decide) _).sub (Sub.cons rfl (Sub.cons rfl (Sub.cons rfl (Sub.cons rfl (Sub.nil _)))))
        · refine ⟨_, rfl, ?_⟩
          refine (show WX F n Try.prog [] 19 w2 _ [7] _ ((17, .bool false) :: Sk k) from ?_) _ ?_
          · refine WX.pure (o := opAt (opsOf (sub [1, 0, 0, 1, 0, 0, 0] B51)) 7) (d := 18) hF rfl rfl (fun c h => by cases h) rfl rfl (p_not rfl rfl) ?_
            refine WX.nil fun a3 ha3 => ?_
            refine wpIn_cond_true (c := .tmp 18) (x := sub [1, 0, 0, 1, 0, 0, 1, 0] B51) (y := sub [1, 0, 0, 1, 0, 0, 1, 1] B51) (ha3.val (.tmp 18) _ rfl) ?_
            refine wpIn_ret ?_
            refine bodyPost_ret (R := fun e W' => (∃ v, e = .returned v) ∧ (J (upto (bk zs) zs.length) W' ∨ ∃ k, k ≤ zs.length ∧ Jx (upto (bk zs) k) W')) (results_none (by kernel_rfl) _ _ _) ha3.1 ?_
            exact ⟨⟨_, rfl⟩, .inr ⟨k + 1, by omega, by rw [upto_succ]; exact hx2⟩⟩
          · exact (ha2.put (by decide) _).sub (Sub.cons rfl (Sub.cons rfl (Sub.cons rfl (Sub.cons rfl (Sub.nil _)))))
      · obtain rfl : k = zs.length := by omega
        refine wpIn_cond_false (c := .tmp 8) (x := sub [1, 0, 0, 0, 1, 0] B51) (y := sub [1, 0, 0, 0, 1, 1] B51) ?_ ?_
        · have := ha1.val (.tmp 8) _ rfl
          rw [this]
          congr 1
          exact decide_eq_false (by omega)
        refine wpIn_exit (id := 0) ?_
        refine bodyPost_end (R := fun e W' => (∃ v, e = .returned v) ∧ (J (upto (bk zs) zs.length) W' ∨ ∃ k, k ≤ zs.length ∧ Jx (upto (bk zs) k) W')) (results_none (by kernel_rfl) _ _ _) ha1.1 ?_
        exact ⟨⟨_, rfl⟩, .inl hj⟩
end Go.Proofs.Ytjomnicfcdkfdaa
