import Derived.Test.YtfcedjmgddloiaaDoorCwA
import Derived.Lib.OthersKept
namespace Go.Proofs.YtfcedjmgddloiaaDoor
open Go Go.HW Go.RowKit
set_option linter.unusedVariables false
set_option linter.unusedSimpArgs false
section
variable {N : Nat} {S : Slots} {w0 w1 : World} {I : Mem} {H : Heap} {Q : Exit → Act → World → Prop} {Qn : Act → Heap → Prop} {ops : Array Oper} {lab : Lab} {ids : Nat → Option Nat} {l : List Nat} {i d : Nat} {o : Oper} {v : Value}
theorem p_bin {op : BinOp} {T U : TypeId} {x y : Operand} {v z r : Value} (hg : ∀ w, (eqGuard op T x y v z).run Tryd.prog w = .ok () w) (hr : ∀ w, (binOp op T v z).run Tryd.prog w = .ok r w) (ho : o.op = .binOp op T x y U) (hx : ev S x = some v) (hy : ev S y = some z) : FPure Tryd.prog o S r := fun ρ hρ w => by
  simp only [execOp, ho, hρ _ _ hx, hρ _ _ hy]
  refine val_run ?_
  exact (run_of_bind (hg w)).trans (hr w)
theorem p_fieldU {T : TypeId} {f : Nat} {x : Operand} {v r : Value} (hr : ∀ w, (Instr.field T v f).run Tryd.prog w = .ok r w) (ho : o.op = .field T x f) (hx : ev S x = some v) : FPure Tryd.prog o S r := fun ρ hρ w => by
  simp only [execOp, ho, hρ _ _ hx]
  exact val_run (hr w)
theorem p_ixU {T : TypeId} {x y : Operand} {v z r : Value} (hr : ∀ w, (Instr.indexAt T v z).run Tryd.prog w = .ok r w) (ho : o.op = .indexAddr T x y) (hx : ev S x = some v) (hy : ev S y = some z) : FPure Tryd.prog o S r := fun ρ hρ w => by
  simp only [execOp, ho, hρ _ _ hx, hρ _ _ hy]
  exact val_run (hr w)
theorem f_upd {t kt e : TypeId} {k : IntKind} {x y z : Operand} {b j : Nat} {a : Int} {v : Value} {l : List (Int × Value)} (hm : ∀ w, (underlying t).run Tryd.prog w = .ok (.map kt e) w) (hk : ∀ w, (underlying kt).run Tryd.prog w = .ok (.int k) w)
    (hH : H[j]? = some (some b, mobj k l)) (hnew : mfind a l = none) (ho : o.op = .mapUpdate t x y z) (hx : ev S x = some (.map (some b))) (hy : ev S y = some (.int k a)) (hz : ev S z = some v) : FPut Tryd.prog o w0 I S H (H.set j (some b, mobj k (l ++ [(a, v)]))) := fun ρ hρ w hc => by
  have h := f_insert (P := Tryd.prog) (w0 := w0) (I := I) (S := S) (H := H) (o := { o with op := .insert t x y z }) hm hk hH hnew rfl hx hy hz ρ hρ w hc
  have e : execOp ρ o = execOp ρ { o with op := .insert t x y z } := by simp only [execOp, ho]
  rw [e]; exact h
theorem f_rangeStr {T : TypeId} {x : Operand} {s : ByteArray} (hu : Tryd.prog.underlying T = some .string) (ho : o.op = .range T x) (hx : ev S x = some (.string s)) : FNew Tryd.prog o S (.stringIter s 0) (fun b => ptr b 0) := fun ρ hρ w => by
  simp only [execOp, ho, hρ _ _ hx]
  exact val_run (v := ptr w.heap.size 0) (run_range_string w T s hu)
theorem f_nextStr {b j pos : Nat} {x : Operand} {s : ByteArray} {c : Nat} {wd : Nat} (hH : H[j]? = some (some b, .stringIter s pos)) (hp : pos < s.size) (hd : Utf8.decode s pos = (c, wd)) (ho : o.op = .next x true) (hx : ev S x = some (ptr b 0)) :
    FAct Tryd.prog o w0 I S H Unit (fun _ => .tuple #[.bool true, .int .i64 (pos : Int), .int .i32 (c : Int)]) (fun _ => H.set j (some b, .stringIter s (pos + wd))) := fun ρ hρ w hc => by
  have hb := hc.own b _ (List.mem_of_getElem? hH)
  refine .inl ⟨(), w.iterAt b s (pos + wd), ?_, ?_⟩
  · simp only [execOp, ho, hρ _ _ hx]
    have := Lib.run_next_any_at (P := Tryd.prog) w b s pos o.type hb hp
    rw [hd] at this
    exact val_run this
  · refine hc.setObj hH rfl rfl rfl ?_ ?_ ?_
    · simp [World.iterAt]
    · simp [World.iterAt, lt_of_get hb]
    · intro e he; simp [World.iterAt, Array.getElem?_setIfInBounds, Ne.symm he]
theorem f_nextEnd {b j pos : Nat} {x : Operand} {s : ByteArray} (hH : H[j]? = some (some b, .stringIter s pos)) (hp : ¬ pos < s.size) (ho : o.op = .next x true) (hx : ev S x = some (ptr b 0)) : FQuiet Tryd.prog o w0 I S H (.tuple #[.bool false]) := fun ρ hρ w hc => .inl (by
  have hb := hc.own b _ (List.mem_of_getElem? hH)
  simp only [execOp, ho, hρ _ _ hx]
  exact val_run (Lib.run_next_end_at (P := Tryd.prog) w b s pos o.type hb hp))
theorem ments_len (k : IntKind) : ∀ (l : List (Int × Value)) (n : Nat), (ments k n l).length = l.length
  | [], n => rfl
  | (b, u) :: l, n => by simp [ments, ments_len k l (n + 1)]
theorem f_mapLen {T kt e : TypeId} {x : Operand} {b j : Nat} {k : IntKind} {l : List (Int × Value)} {n : Int} (hu : ∀ w, (underlying T).run Tryd.prog w = .ok (.map kt e) w) (hH : H[j]? = some (some b, mobj k l)) (hn : n = (l.length : Int)) (ho : o.op = .call { callee := .builtin .len, args := #[x], argTypes := #[T] }) (hx : ev S x = some (.map (some b))) : FQuiet Tryd.prog o w0 I S H (.int .i64 n) := fun ρ hρ w hc => .inl (by
  subst hn
  have hb := hc.own b _ (List.mem_of_getElem? hH)
  obtain ⟨cs, h⟩ := run_builtin (P := Tryd.prog) (ρ := ρ) (vs := #[.map (some b)]) ho (by simp [hρ _ _ hx]) w
  rw [h]
  refine val_run ?_
  show (Builtin.len_ _ _ _).run _ _ = _
  unfold Builtin.len_
  refine (run_of_bind (hu w)).trans ?_
  refine (run_of_bind (run_getObj hb)).trans ?_
  show (pure (goInt ((ments k 0 l).toArray.size)) : Sem Value).run _ _ = _
  rw [List.size_toArray, ments_len]
  rfl)
theorem C.endQ {f : FuncId} {fn : Func} {R : Ending → World → Prop} {rs : List ResultVar} {vs : List Value} {v : Value} (hQ : Q .normal = bodyPost Tryd.prog fn R .normal) (hf : Tryd.prog.funcs[f]? = some fn) (hrs : fn.results = rs.toArray) (hl : rs.length = vs.length)
    (hv : (if h : vs.toArray.size = 1 then vs.toArray[0] else .tuple vs.toArray) = v) (hall : ∀ (i : Nat) (r : ResultVar) (u : Value), rs[i]? = some r → vs[i]? = some u → ResV Tryd.prog N w0 I S H r u) (hR : ∀ w, Cls w0 I H w → R (.returned v) w) :
    ∀ a w, AgreeD [] N S a → Cls w0 I H w → Q .normal a w := fun a w ha hc => by
  rw [hQ]
  obtain ⟨hd, fn', v', hf', hr, hR'⟩ := fin_of (P := Tryd.prog) (f := f) (N := N) (R := R) v hf hrs hl hv hall (show Agree N S a from ha) hc (hR w hc)
  rw [hf] at hf'; cases hf'
  exact ⟨hd, v', hr, hR'⟩
theorem C.loopE {id : Nat} {c : Code} {α : Type} (L : α → Nat) (Sx : α → Slots) (Hx : α → Heap) (p : α → Prop) (x0 : α) (h0 : p x0) (hs : Sub (Sx x0) S) (hH : H = Hx x0) (e : α → Prop)
    (h : ∀ x, p x → ∀ Q' : Exit → Act → World → Prop, (∀ y, p y → L y < L x → ∀ a w, AgreeD [] N (Sx y) a → Cls w0 I (Hx y) w → Q' .normal a w) → (e x → ∀ a w, AgreeD [] N (Sx x) a → Cls w0 I (Hx x) w → Q' (.exit id) a w) → (∀ a w, Q .ret a w → Q' .ret a w) → CW N w0 I c Q' (Sx x) (Hx x)) (hy : ∀ x, p x → e x → ∀ a w, AgreeD [] N (Sx x) a → Cls w0 I (Hx x) w → Q .normal a w) : CW N w0 I (.block id (.loop c)) Q S H := by
  refine C.block ?_
  refine C.loop L Sx Hx p x0 h0 hs hH fun x hp Q' hn he => ?_
  refine h x hp Q' hn (fun hx a w ha hc => he _ a w (by simp) ?_) (fun a w hq => he _ a w (by simp) hq)
  show Exit.inBlock id Q (.exit id) a w
  simp only [Exit.inBlock, if_true]
  exact hy x hp hx a w ha hc
theorem turn_perm {X : Type} {u : X → Value} {E R : Heap} {E' : X → Heap} {g : FuncId} {all : Array Value} {is : List Nat} (hp : is.isPerm (List.range H.length) = true) (hpk : HW.pick is H = E ++ R) (hc : Turn I g all E u E') : FrontTurn I g all H u (fun x => E' x ++ R) := fun w0 w hcl =>
  hc.at w0 w (by rw [← hpk]; exact hcl.perm (pick_perm hp).symm)
theorem f_callP {X : Type} {u : X → Value} {H' : X → Heap} {cl : Call} {fo : Operand} {g : FuncId} {caps args all : Array Value} (hc : FrontTurn I g all H u H') (he : all = args ++ caps) (hbody : ∀ w, (callFunc g all).run Tryd.prog w = .ok (.enter g all) w) (ho : o.op = .call cl) (hcal : cl.callee = .value fo) (hf : ev S fo = some (.func (.func g) #[] caps)) (hargs : ∀ ρ, Val S ρ → cl.args.map ρ = args) : FAct Tryd.prog o w0 I S H X u H' := fun ρ hρ w hcl => .inr (.inr ⟨g, all, w, by
    subst he
    simp only [execOp, ho, resolve, hcal, hargs _ hρ]
    rw [hρ _ _ hf]
    show (callFunc g (#[] ++ args ++ caps)).run Tryd.prog w = _
    simpa using hbody w, hc w0 w hcl⟩)
/-- a call: what it reaches is brought to the front -/
theorem W.cP {X : Type} {u : X → Value} {E R : Heap} {E' : X → Heap} {cl : Call} {fo : Operand} {g : FuncId} {caps args all : Array Value} (hi : ops[i]? = some o) (hw : Wn ops S o true) (hd : o.dst = some d) (hN : Nat.blt d N = true) (is : List Nat) (hp : is.isPerm (List.range H.length) = true) (hpk : HW.pick is H = E ++ R) (hc : Turn I g all E u E') (he : all = args ++ caps) (hbody : ∀ w, (callFunc g all).run Tryd.prog w = .ok (.enter g all) w) (ho : o.op = .call cl) (hcal : cl.callee = .value fo) (hf : ev S fo = some (.func (.func g) #[] caps)) (hargs : ∀ ρ, Val S ρ → cl.args.map ρ = args)
    (h : ∀ x, WW N w0 I ops l Q ((d, u x) :: S) (E' x ++ R)) : WW N w0 I ops (i :: l) Q S H :=
  W.act hi hw hd hN (f_callP (turn_perm hp hpk hc) he hbody ho hcal hf hargs) (fun c hx => by rw [ho] at hx; cases hx) h
theorem DV.new {ob : Obj} {mk : Nat → Value} (hi : ops[i]? = some o) (hw : Wn ops S o true) (hd : o.dst = some d) (hN : Nat.blt d N = true) (hk : (lab i).1 = .alloc) (hp : FNew Tryd.prog o S ob mk)
    (h : ∀ b, w0.heap.size ≤ b → DD N w0 I ops lab ids Qn l ((d, mk b) :: S) ((some b, ob) :: H)) : DD N w0 I ops lab ids Qn (i :: l) S H := fun a ha => by
  show stepD Tryd.prog ops w0 I lab ids i _ a H
  unfold stepD
  rw [hi]
  intro _
  exact ⟨.new ob mk, .inl ⟨hw N a ha, hk, hp _ ha.val⟩, fun b hb => by show listD _ _ _ _ _ _ _ _ _ _; rw [hd]; exact h b hb _ (ha.put (by simpa [Nat.blt_eq] using hN) (mk b))⟩
theorem DV.cPk {X : Type} {u : X → Value} {E R : Heap} {E' : X → Heap} {cl : Call} {fo : Operand} {g : FuncId} {caps args all : Array Value} (hi : ops[i]? = some o) (hw : Wn ops S o true) (hd : o.dst = some d) (hN : Nat.blt d N = true) (hk : (lab i).1 = .keep) (is : List Nat) (hp : is.isPerm (List.range H.length) = true) (hpk : HW.pick is H = E ++ R) (hc : Turn I g all E u E') (hkeep : ∀ x p, p ∈ E → p ∈ E' x) (he : all = args ++ caps) (hbody : ∀ w, (callFunc g all).run Tryd.prog w = .ok (.enter g all) w) (ho : o.op = .call cl) (hcal : cl.callee = .value fo) (hf : ev S fo = some (.func (.func g) #[] caps)) (hargs : ∀ ρ, Val S ρ → cl.args.map ρ = args)
    (h : ∀ x, DD N w0 I ops lab ids Qn l ((d, u x) :: S) (E' x ++ R)) : DD N w0 I ops lab ids Qn (i :: l) S H :=
  DV.keep (fun x p hpm => by
    have h1 : p ∈ E ++ R := by rw [← hpk]; exact ((pick_perm hp).mem_iff).2 hpm
    rcases List.mem_append.1 h1 with h2 | h2
    · exact List.mem_append_left _ (hkeep x p h2)
    · exact List.mem_append_right _ h2) hi hw hd hN hk (f_callP (turn_perm hp hpk hc) he hbody ho hcal hf hargs) h
def oneB : Value → Bool
  | .agg _ => false
  | .tuple _ => false
  | _ => true
theorem one_ok {v : Value} (h : oneB v = true) : OneCell v := by cases v <;> first | trivial | cases h
theorem one_all {c : Array Value} (h : c.toList.all oneB = true) : ∀ u ∈ c.toList, OneCell u := fun u hu => one_ok (List.all_eq_true.1 h u hu)
end
end Go.Proofs.YtfcedjmgddloiaaDoor
