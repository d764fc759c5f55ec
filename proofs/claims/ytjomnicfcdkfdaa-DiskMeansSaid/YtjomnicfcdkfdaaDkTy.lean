import Derived.Test.YtjomnicfcdkfdaaHw19
import Derived.Test.YtjomnicfcdkfdaaProg
import Derived.RangeFuncNested
import Derived.RangeFuncLeaves
import Derived.RangeFuncBound
import Derived.WalkKit
import Derived.Handy
section
namespace Go.Proofs.Ytjomnicfcdkfdaa
open Go Go.HW Go.RowKit
set_option linter.unusedVariables false
set_option linter.unusedSimpArgs false

/-! ### disks -/
abbrev Wr := Int × List Int
structure Dk where
  n : Int
  set : List Wr
  late : List Wr
  fuse : Int
  armed : Bool
  dead : Bool
def wrc (x : Wr) : Array Value := #[.int .i64 x.1] ++ enc .u8 x.2
def Blk (b : List Int) : Value := .agg (enc .u8 b)
def zeros : List Int := List.replicate 512 0
def ShWr : Shape Wr where
  n := 513
  pos := by decide
  rep := fun _ l x => l = (wrc x).toList ∧ x.2.length = 512
  len := fun ⟨h, h2⟩ => by subst h; simp [wrc, enc_size, h2]
  one := fun ⟨h, _⟩ v hv => by
    subst h
    simp only [wrc, Array.toList_append, List.mem_append] at hv
    rcases hv with hv | hv
    · simp at hv; subst hv; rfl
    · exact encl_one _ _ v (by simpa [enc, encl] using hv)
  mono := fun _ h => h
def dmap (l : List Wr) : Obj := mobj .i64 (l.map fun p => (p.1, Blk p.2))
def mget : List Wr → Int → List Int
  | [], _ => zeros
  | (a, b) :: r, k => if k == a then b else mget r k
def mput : List Wr → Int → List Int → List Wr
  | [], k, b => [(k, b)]
  | (a, c) :: r, k, b => if k == a then (a, b) :: r else (a, c) :: mput r k b
def Full (l : List Wr) : Prop := ∀ p ∈ l, p.2.length = 512
theorem mget_len {l : List Wr} (h : Full l) (k : Int) : (mget l k).length = 512 := by
  induction l with
  | nil => exact List.length_replicate
  | cons p r ih =>
    obtain ⟨a, b⟩ := p
    unfold mget
    split
    · exact h (a, b) (by simp)
    · exact ih fun p hp => h p (by simp [hp])
theorem mput_full {l : List Wr} (h : Full l) {k : Int} {b : List Int} (hb : b.length = 512) : Full (mput l k b) := by
  induction l with
  | nil => intro p hp; simp [mput] at hp; subst hp; exact hb
  | cons q r ih =>
    obtain ⟨a, c⟩ := q
    have hr : Full r := fun p hp => h p (by simp [hp])
    unfold mput
    split
    · intro p hp
      rcases List.mem_cons.1 hp with rfl | hp
      · exact hb
      · exact hr p hp
    · intro p hp
      rcases List.mem_cons.1 hp with rfl | hp
      · exact h _ (by simp)
      · exact ih hr p hp
theorem mget_mput (l : List Wr) (k j : Int) (b : List Int) : mget (mput l k b) j = if j = k then b else mget l j := by
  induction l with
  | nil => by_cases h : j = k <;> simp [mput, mget, h]
  | cons q r ih =>
    obtain ⟨a, c⟩ := q
    unfold mput
    by_cases h : k = a
    · subst h
      rw [if_pos (by simp)]
      by_cases h2 : j = k <;> simp [mget, h2]
    · rw [if_neg (by simpa using h)]
      unfold mget
      by_cases h2 : j = a
      · subst h2
        rw [if_pos (by simp), if_neg (Ne.symm h)]
        simp
      · rw [if_neg (by simpa using h2), ih]
        simp [h2]
theorem mfind_blk (l : List Wr) (k : Int) : (mfind k (l.map fun p => (p.1, Blk p.2))).getD (Blk zeros) = Blk (mget l k) := by
  induction l with
  | nil => rfl
  | cons p r ih =>
    obtain ⟨a, b⟩ := p
    simp only [List.map_cons, mfind, mget]
    split
    · rfl
    · exact ih

section
variable {P : Program} {o : Oper} {S : Slots} {w0 : World} {I M : Mem} {H : Heap}
theorem f_mget {t kt e : TypeId} {x y : Operand} {b j : Nat} {a : Int} {l : List Wr} (hm : ∀ w, (underlying t).run P w = .ok (.map kt e) w) (hk : ∀ w, (underlying kt).run P w = .ok (.int .i64) w) (hz : ∀ w, (zeroValue e).run P w = .ok (Blk zeros) w)
    (hH : H[j]? = some (some b, dmap l)) (ho : o.op = .lookup t x y false) (hx : ev S x = some (.map (some b))) (hy : ev S y = some (.int .i64 a)) : FQuiet P o w0 I S H (Blk (mget l a)) :=
  f_lookupV (mfind_blk l a) (f_lookup hm hk hz hH ho hx hy)
/-- .. of a map that stays -/
theorem i_mget {t kt e : TypeId} {x y : Operand} {b : Nat} {a : Int} {l : List Wr} (hm : ∀ w, (underlying t).run P w = .ok (.map kt e) w) (hk : ∀ w, (underlying kt).run P w = .ok (.int .i64) w) (hz : ∀ w, (zeroValue e).run P w = .ok (Blk zeros) w)
    (hb : I b = some (dmap l)) (ho : o.op = .lookup t x y false) (hx : ev S x = some (.map (some b))) (hy : ev S y = some (.int .i64 a)) : FImm P o I S (Blk (mget l a)) := fun ρ hρ w hi => by
  simp only [execOp, ho, hρ _ _ hx, hρ _ _ hy]
  refine val_run ?_
  have hb := hi b _ hb
  obtain ⟨r, h1, h2⟩ := run_findKey_int (P := P) hk a (l.map fun p => (p.1, Blk p.2)) w
  unfold Instr.lookup
  refine (run_of_bind (hm w)).trans ?_
  refine (run_of_bind (run_getObj hb)).trans ?_
  refine (run_of_bind (x := Pure.pure (ments .i64 0 (l.map fun p => (p.1, Blk p.2))).toArray) (a := (ments .i64 0 (l.map fun p => (p.1, Blk p.2))).toArray) (w' := w) rfl).trans ?_
  refine (run_of_bind (run_checkKey_int hk a _ w)).trans ?_
  refine (run_of_bind h1).trans ?_
  rw [← mfind_blk, ← h2]
  cases r with
  | none => exact (run_of_bind (hz w)).trans rfl
  | some p => rfl
theorem ments_mput (l : List Wr) (k : Int) (b : List Int) (n : Nat) (i0 : Nat) :
    ∃ r, Instr.findNow (.int .i64) (.int .i64 k) (ments .i64 n (l.map fun p => (p.1, Blk p.2))) i0 = some r ∧
      ((∃ i q, r = some (i0 + i, q) ∧ (∃ v c, (ments .i64 n (l.map fun p => (p.1, Blk p.2)))[i]? = some { key := .int .i64 k, val := v, born := c }) ∧ (ments .i64 n (l.map fun p => (p.1, Blk p.2))).modify i (fun e => { e with key := .int .i64 k, val := Blk b }) = ments .i64 n ((mput l k b).map fun p => (p.1, Blk p.2)) ∧ (mput l k b).length = l.length) ∨
        (r = none ∧ mput l k b = l ++ [(k, b)])) := by
  induction l generalizing n i0 with
  | nil => exact ⟨none, rfl, .inr ⟨rfl, rfl⟩⟩
  | cons p l ih =>
    obtain ⟨a, c⟩ := p
    simp only [List.map_cons, ments, Instr.findNow, Instr.sameNow]
    cases h : (k == a) with
    | true =>
      have hk : k = a := by simpa using h
      subst hk
      refine ⟨some (i0, Blk c), by simp, .inl ⟨0, Blk c, by simp, ⟨_, _, rfl⟩, by simp [mput, ments], by simp [mput]⟩⟩
    | false =>
      obtain ⟨r, h1, h2⟩ := ih (n + 1) (i0 + 1)
      refine ⟨r, by simpa [h] using h1, ?_⟩
      rcases h2 with ⟨i, q, rfl, ⟨v, c', hv⟩, h3, h4⟩ | ⟨rfl, h3⟩
      · refine .inl ⟨i + 1, q, by congr 2; omega, ⟨v, c', by simpa using hv⟩, ?_, ?_⟩
        · simp only [mput, h, Bool.false_eq_true, if_false, List.map_cons, ments, List.modify_succ_cons]
          rw [h3]
        · simp [mput, h, h4]
      · exact .inr ⟨rfl, by simp [mput, h, h3]⟩
theorem f_mput {t kt e : TypeId} {x y z : Operand} {b j : Nat} {a : Int} {c : List Int} {l : List Wr} (hm : ∀ w, (underlying t).run P w = .ok (.map kt e) w) (hk : ∀ w, (underlying kt).run P w = .ok (.int .i64) w)
    (hH : H[j]? = some (some b, dmap l)) (ho : o.op = .mapUpdate t x y z) (hx : ev S x = some (.map (some b))) (hy : ev S y = some (.int .i64 a)) (hz : ev S z = some (Blk c)) : FPut P o w0 I S H (H.set j (some b, dmap (mput l a c))) := fun ρ hρ w hc => by
  simp only [execOp, ho, hρ _ _ hx, hρ _ _ hy, hρ _ _ hz]
  have hb := hc.own b _ (List.mem_of_getElem? hH)
  obtain ⟨r, h1, h2⟩ := ments_mput l a c 0 0
  have hf : (Instr.findKey kt (.int .i64 a) (ments .i64 0 (l.map fun p => (p.1, Blk p.2)))).run P w = .ok r w := by
    unfold Instr.findKey
    refine (run_of_bind (hk w)).trans ?_
    rw [h1]; rfl
  rcases h2 with ⟨i, q, rfl, ⟨v, cc, hv⟩, h3, h4⟩ | ⟨rfl, h3⟩
  · obtain ⟨w', g1, g2, g3, g4, g5, g6, g7⟩ := run_setObj (P := P) (es' := (ments .i64 0 ((mput l a c).map fun p => (p.1, Blk p.2))).toArray) (c' := ((mput l a c).map fun p => (p.1, Blk p.2)).length) hb
    refine ⟨w', ?_, hc.setObj hH g2 g3 g4 g5 g6 g7⟩
    refine (run_of_bind (a := ()) (w' := w') ?_).trans rfl
    unfold Instr.mapUpdate
    refine (run_of_bind (hm w)).trans ?_
    refine (run_of_bind (run_getObj hb)).trans ?_
    refine (run_of_bind (run_checkKey_int hk a _ w)).trans ?_
    refine (run_of_bind hf).trans ?_
    simp only [Nat.zero_add]
    refine (run_of_bind (a := .int .i64 a) (w' := w) ?_).trans ?_
    · rw [List.getElem?_toArray, hv]
      simp [Instr.keyThatStays, Instr.sameBits]
    · rw [show ((ments .i64 0 (l.map fun p => (p.1, Blk p.2))).toArray.modify i fun e => { e with key := .int .i64 a, val := Blk c }) = (ments .i64 0 ((mput l a c).map fun p => (p.1, Blk p.2))).toArray by rw [← h3]; simp,
        show (l.map fun p => (p.1, Blk p.2)).length = ((mput l a c).map fun p => (p.1, Blk p.2)).length by simp [h4]]
      exact g1
  · obtain ⟨w', g1, g2, g3, g4, g5, g6, g7⟩ := run_setObj (P := P) (es' := (ments .i64 0 (l.map fun p => (p.1, Blk p.2))).toArray.push { key := .int .i64 a, val := Blk c, born := (l.map fun p => (p.1, Blk p.2)).length }) (c' := (l.map fun p => (p.1, Blk p.2)).length + 1) hb
    refine ⟨w', ?_, hc.setObj hH g2 g3 g4 g5 ?_ g7⟩
    · refine (run_of_bind (a := ()) (w' := w') ?_).trans rfl
      unfold Instr.mapUpdate
      refine (run_of_bind (hm w)).trans ?_
      refine (run_of_bind (run_getObj hb)).trans ?_
      refine (run_of_bind (run_checkKey_int hk a _ w)).trans ?_
      exact (run_of_bind hf).trans g1
    · rw [g6, h3]
      simp [dmap, mobj, ments_append]
end
end Go.Proofs.Ytjomnicfcdkfdaa
end

section
namespace Go.Proofs.Ytjomnicfcdkfdaa
open Go Go.HW Go.RowKit
set_option linter.unusedVariables false
set_option linter.unusedSimpArgs false

/-! ### the same rules, where the body of a loop over a function may stand -/
def AgreeD (D : List Deferred) (N : Nat) (S : Slots) (a : Act) : Prop := a.defers = D ∧ a.tmps.size = N ∧ ∀ i v, HW.get S i = some v → a.tmps[i]? = some v
section
variable {D : List Deferred} {N : Nat} {S : Slots} {a : Act} {F : Fence} {n : Nat} {P : Program} {w0 : World} {I : Mem} {H : Heap} {Q : Exit → Act → World → Prop} {ops : Array Oper} {l : List Nat} {i d : Nat} {o : Oper} {v : Value}
theorem AgreeD.val (h : AgreeD D N S a) : Val S a.eval := fun x v hx => by
  cases x with
  | tmp t => have := h.2.2 t v hx; simp [Act.eval, this]
  | const u => exact Option.some.inj hx
  | global g => exact Option.some.inj hx
  | func g => exact Option.some.inj hx
theorem AgreeD.put (h : AgreeD D N S a) {d : Nat} (hd : d < N) (v : Value) : AgreeD D N ((d, v) :: S) (a.put (some d) v) := by
  obtain ⟨h1, h2, h3⟩ := h
  refine ⟨h1, by simp [Act.put, h2], fun i u hi => ?_⟩
  simp only [HW.get] at hi
  simp only [Act.put]
  split at hi
  · rename_i hb
    have : d = i := Nat.eq_of_beq_eq_true hb
    subst this
    cases hi
    rw [Array.getElem?_setIfInBounds_self_of_lt (by omega)]
  · rename_i hb
    have : d ≠ i := Nat.ne_of_beq_eq_false hb
    rw [Array.getElem?_setIfInBounds_ne this]
    exact h3 i u hi

structure Wide (F : Fence) : Prop where
  fn : ∀ f, F.fn f
  depth : F.depth = none
theorem wide_wide : Wide Fence.wide := ⟨fun _ => trivial, rfl⟩
theorem Wide.round (h : Wide F) (l : Nat) : Wide (F.inRound l) := ⟨h.fn, h.depth⟩

/-- A code, from slots and a class of worlds. -/
def CI (F : Fence) (n : Nat) (P : Program) (D : List Deferred) (N : Nat) (w0 : World) (I : Mem) (c : Code) (Q : Exit → Act → World → Prop) (S : Slots) (H : Heap) : Prop :=
  ∀ a w, AgreeD D N S a → Cls w0 I H w → c.wpIn F n P Q a w
def WI (F : Fence) (n : Nat) (P : Program) (D : List Deferred) (N : Nat) (w0 : World) (I : Mem) (ops : Array Oper) (l : List Nat) (Q : Exit → Act → World → Prop) (S : Slots) (H : Heap) : Prop :=
  ∀ a w, AgreeD D N S a → Cls w0 I H w → wpOpsIn F n P ops Q l a w
theorem opsIn_go (hF : Wide F) (hi : ops[i]? = some o) (hg : o.guard = none) (hnd : ∀ c, o.op ≠ .defer c) {w : World} (h : o.uponIn F n P a (wpOpsIn F n P ops Q l) Q ((execOp a.eval o).run P w)) : wpOpsIn F n P ops Q (i :: l) a w := by
  unfold wpOpsIn
  rw [hi]
  simp only [Region.wanted, hg, if_true]
  exact ⟨fun f _ => hF.fn f, by rw [Oper.semAt_eq _ _ _ hnd]; exact h⟩
theorem CI.region {id m : Nat} {ops : Array Oper} (hm : ops.size = m) (h : WI F n P D N w0 I ops (List.range m) Q S H) : CI F n P D N w0 I (.region id ops false) Q S H := fun a w ha hc =>
  wpIn_region (by rw [hm]; exact h a w ha hc)
theorem CI.seq {x y : Code} (h : CI F n P D N w0 I x (Exit.then (y.wpIn F n P Q) Q) S H) : CI F n P D N w0 I (.seq x y) Q S H := fun a w ha hc => wpIn_seq (h a w ha hc)
theorem WI.nil {K : Act → World → Prop} (h : ∀ a w, AgreeD D N S a → Cls w0 I H w → K a w) : WI F n P D N w0 I ops [] (Exit.then K Q) S H := fun a w ha hc => h a w ha hc
theorem WI.nil' (h : ∀ a w, AgreeD D N S a → Cls w0 I H w → Q .normal a w) : WI F n P D N w0 I ops [] Q S H := fun a w ha hc => h a w ha hc
theorem WI.imm (hF : Wide F) (hi : ops[i]? = some o) (hg : o.guard = none) (hnd : ∀ c, o.op ≠ .defer c) (hd : o.dst = some d) (hN : Nat.blt d N = true) (hp : FImm P o I S v) (h : WI F n P D N w0 I ops l Q ((d, v) :: S) H) : WI F n P D N w0 I ops (i :: l) Q S H := fun a w ha hc =>
  opsIn_go hF hi hg hnd (by rw [hp _ ha.val w hc.imm]; show wpOpsIn _ _ _ _ _ _ _ _; rw [hd]; exact h _ _ (ha.put (by simpa [Nat.blt_eq] using hN) v) hc)
theorem WI.pure (hF : Wide F) (hi : ops[i]? = some o) (hg : o.guard = none) (hnd : ∀ c, o.op ≠ .defer c) (hd : o.dst = some d) (hN : Nat.blt d N = true) (hp : FPure P o S v) (h : WI F n P D N w0 I ops l Q ((d, v) :: S) H) : WI F n P D N w0 I ops (i :: l) Q S H :=
  WI.imm hF hi hg hnd hd hN (fun ρ hρ w _ => hp ρ hρ w) h
theorem WI.new {ob : Obj} {mk : Nat → Value} (hF : Wide F) (hi : ops[i]? = some o) (hg : o.guard = none) (hnd : ∀ c, o.op ≠ .defer c) (hd : o.dst = some d) (hN : Nat.blt d N = true) (hp : FNew P o S ob mk)
    (h : ∀ b, w0.heap.size ≤ b → WI F n P D N w0 I ops l Q ((d, mk b) :: S) ((some b, ob) :: H)) : WI F n P D N w0 I ops (i :: l) Q S H := fun a w ha hc =>
  opsIn_go hF hi hg hnd (by rw [hp _ ha.val w]; show wpOpsIn _ _ _ _ _ _ _ _; rw [hd]; exact h _ hc.size _ _ (ha.put (by simpa [Nat.blt_eq] using hN) _) (hc.alloc ob))
theorem WI.put {H' : Heap} (hF : Wide F) (hi : ops[i]? = some o) (hg : o.guard = none) (hnd : ∀ c, o.op ≠ .defer c) (hd : o.dst = none) (hp : FPut P o w0 I S H H') (h : WI F n P D N w0 I ops l Q S H') : WI F n P D N w0 I ops (i :: l) Q S H := fun a w ha hc => by
  obtain ⟨w', hr, hc'⟩ := hp _ ha.val w hc
  exact opsIn_go hF hi hg hnd (by rw [hr]; show wpOpsIn _ _ _ _ _ _ _ _; rw [hd]; exact h _ _ ha hc')
/-- .. a call of a function -/
theorem WI.call {cl : Call} {fo : Operand} {g : FuncId} {args : Array Value} {H' : Value → Heap} {p : Value → Prop} (hF : Wide F) (hi : ops[i]? = some o) (hg : o.guard = none) (hd : o.dst = some d) (hN : Nat.blt d N = true)
    (ho : o.op = .call cl) (hcal : cl.callee = .value fo) (hf : ev S fo = some (.func (.func g) #[] #[])) (hargs : ∀ ρ, Val S ρ → cl.args.map ρ = args) (hbody : ∀ w, (callFunc g args).run P w = .ok (.enter g args) w)
    (hc : ∀ w, Cls w0 I H w → CallsIn F (n - 1) P g args w fun e w' => ∃ v, e = .returned v ∧ p v ∧ Cls w0 I (H' v) w') (h : ∀ v, p v → WI F n P D N w0 I ops l Q ((d, v) :: S) (H' v)) : WI F n P D N w0 I ops (i :: l) Q S H := fun a w ha hcl =>
  opsIn_go hF hi hg (fun c hx => by rw [ho] at hx; cases hx) (by
    have e : (execOp a.eval o).run P w = .ok (.enter g args) w := by
      simp only [execOp, ho, resolve, hcal, hargs _ ha.val]
      rw [ha.val _ _ hf]
      show (callFunc g (#[] ++ args ++ #[])).run P w = _
      simpa using hbody w
    rw [e, Oper.uponIn_enter]
    refine ⟨fun hx => (by rw [hF.depth] at hx; cases hx), (hc w hcl).mono fun en w' ⟨v, he, hv, hc'⟩ => ?_⟩
    subst he
    show wpOpsIn _ _ _ _ _ _ _ _
    rw [hd]
    exact h v hv _ _ (ha.put (by simpa [Nat.blt_eq] using hN) v) hc')
end

/-! ### slices.Backward -/
abbrev W5 := { x : Wr // x.2.length = 512 }
def w5d : W5 := ⟨(0, zeros), List.length_replicate⟩
theorem en51 (args : Array Value) (w : World) : (callFunc 51 args).run Try.prog w = .ok (.enter 51 args) w := by kernel_rfl
theorem en47 (args : Array Value) (w : World) : (callFunc 47 args).run Try.prog w = .ok (.enter 47 args) w := by kernel_rfl
theorem tu59 (w : World) : (underlying 59).run Try.prog w = .ok (.slice 64) w := by kernel_rfl
theorem ts64 (w : World) : (sizeOf 64).run Try.prog w = .ok 513 w := by kernel_rfl
theorem ta64 (w : World) : (isAgg 64).run Try.prog w = .ok true w := by kernel_rfl
theorem ta59 (w : World) : (isAgg 59).run Try.prog w = .ok false w := by kernel_rfl
noncomputable def B51 : Code := bodyOf Try.f51
noncomputable def B47 : Code := bodyOf Try.f47
noncomputable def B38 : Code := bodyOf Try.f38
theorem nt51 : Try.f51.ntmps = 19 := by kernel_rfl
theorem nt47 : Try.f47.ntmps = 4 := by kernel_rfl
theorem nt38 : Try.f38.ntmps = 26 := by kernel_rfl
theorem bd51 : Try.f51.body = some B51 := by kernel_rfl
theorem bd47 : Try.f47.body = some B47 := by kernel_rfl
theorem bd38 : Try.f38.body = some B38 := by kernel_rfl
/-- a function's body, walked -/
theorem callsIn_of_CI {F : Fence} {n N : Nat} {P : Program} {f : FuncId} {fn : Func} {c : Code} {args : Array Value} {w w0 : World} {I : Mem} {H : Heap} {S : Slots} {R : Ending → World → Prop} (hF : Wide F) (hro : F.round = none) (hf : P.funcs[f]? = some fn) (hb : fn.body = some c) (hN : fn.ntmps = N) (hsz : Nat.ble args.size N = true) (hS : ∀ p ∈ S, args[p.1]? = some p.2)
    (hc : Cls w0 I H w) (h : CI F n P [] N w0 I c (bodyPost P fn R) S H) : CallsIn F n P f args w R := by
  refine callsIn_of_wp hf hb (hF.fn _) (h _ _ ⟨rfl, ?_, fun i v hi => ?_⟩ hc) hro
  · have := Nat.le_of_ble_eq_true hsz
    simp; omega
  · have := hS (i, v) (get_mem hi)
    simp only at this ⊢
    rw [Array.getElem?_append_left (lt_of_get this)]; exact this
theorem CI.ret {F : Fence} {n N : Nat} {P : Program} {f : FuncId} {fn : Func} {w0 : World} {I : Mem} {H : Heap} {S : Slots} {R : Ending → World → Prop} {rs : List ResultVar} {vs : List Value} {v : Value} (hf : P.funcs[f]? = some fn) (hrs : fn.results = rs.toArray) (hl : rs.length = vs.length)
    (hv : (if h : vs.toArray.size = 1 then vs.toArray[0] else .tuple vs.toArray) = v) (hall : ∀ (i : Nat) (r : ResultVar) (u : Value), rs[i]? = some r → vs[i]? = some u → ResV P N w0 I S H r u) (hR : ∀ w, Cls w0 I H w → R (.returned v) w) :
    CI F n P [] N w0 I .ret (bodyPost P fn R) S H := fun a w ha hc => by
  refine wpIn_ret ?_
  obtain ⟨hd, fn', v', hf', hr, hR'⟩ := fin_of (P := P) (f := f) (N := N) (R := R) v hf hrs hl hv hall (show Agree N S a from ha) hc (hR w hc)
  rw [hf] at hf'; cases hf'
  exact ⟨hd, v', hr, hR'⟩
/-- slices.Backward: the slice is boxed; the closure bears the box. -/
theorem back_ok {F : Fence} {n : Nat} (hF : Wide F) (hro : F.round = none) (v : Value) (hv : v.cells = #[v]) {w w0 : World} {I : Mem} {H : Heap} (hc : Cls w0 I H w) :
    CallsIn F n Try.prog 47 #[v] w fun e w' => ∃ b, e = .returned (.func (.func 51) #[] #[ptr b 0]) ∧ w0.heap.size ≤ b ∧ Cls w0 I ((some b, .cells #[v] 59) :: H) w' := by
  refine callsIn_of_CI hF hro Try.func47 bd47 nt47 rfl (S := [(0, v)]) (by simp) hc ?_
  show CI F n Try.prog [] 4 w0 I (sub [] B47) _ _ _
  refine CI.seq (x := sub [0] B47) (y := sub [1] B47) ?_
  refine CI.region (id := 0) (m := 2) (ops := opsOf (sub [0] B47)) rfl ?_
  show WI _ _ _ _ _ _ _ _ [0, 1] _ _ _
  refine WI.new (o := opAt (opsOf (sub [0] B47)) 0) (d := 1) hF rfl rfl (fun c h => by cases h) rfl rfl (f_boxSl hv rfl rfl) ?_
  intro b hb
  refine WI.pure (o := opAt (opsOf (sub [0] B47)) 1) (d := 2) hF rfl rfl (fun c h => by cases h) rfl rfl (p_assign (v := .nilFunc) rfl rfl) ?_
  refine WI.nil ?_
  show CI F n Try.prog [] 4 w0 I (sub [1] B47) _ _ _
  refine CI.seq (x := sub [1, 0] B47) (y := sub [1, 1] B47) ?_
  refine CI.region (id := 1) (m := 2) (ops := opsOf (sub [1, 0] B47)) rfl ?_
  show WI _ _ _ _ _ _ _ _ [0, 1] _ _ _
  refine WI.pure (o := opAt (opsOf (sub [1, 0] B47)) 0) (d := 3) hF rfl rfl (fun c h => by cases h) rfl rfl (p_makeFunc (caps := #[ptr b 0]) rfl (args_val (vs := [ptr b 0]) rfl)) ?_
  refine WI.pure (o := opAt (opsOf (sub [1, 0] B47)) 1) (d := 2) hF rfl rfl (fun c h => by cases h) rfl rfl (p_assign rfl rfl) ?_
  refine WI.nil ?_
  show CI F n Try.prog [] 4 w0 I .ret _ _ _
  exact CI.ret (f := 47) (rs := [.tmp 2]) (vs := [.func (.func 51) #[] #[ptr b 0]]) Try.func47 rfl rfl rfl (res_cons (ResV.tmp rfl) res_nil) fun w hc => ⟨b, rfl, hb, hc⟩

/-! .. where the world is told -/
section
variable {D : List Deferred} {N : Nat} {S : Slots} {F : Fence} {n : Nat} {P : Program} {M : Mem} {w : World} {Q : Exit → Act → World → Prop} {ops : Array Oper} {l : List Nat} {i d : Nat} {o : Oper} {v : Value}
def CX (F : Fence) (n : Nat) (P : Program) (D : List Deferred) (N : Nat) (w : World) (c : Code) (Q : Exit → Act → World → Prop) (S : Slots) : Prop := ∀ a, AgreeD D N S a → c.wpIn F n P Q a w
def WX (F : Fence) (n : Nat) (P : Program) (D : List Deferred) (N : Nat) (w : World) (ops : Array Oper) (l : List Nat) (Q : Exit → Act → World → Prop) (S : Slots) : Prop := ∀ a, AgreeD D N S a → wpOpsIn F n P ops Q l a w
theorem CX.region {id m : Nat} {ops : Array Oper} (hm : ops.size = m) (h : WX F n P D N w ops (List.range m) Q S) : CX F n P D N w (.region id ops false) Q S := fun a ha => wpIn_region (by rw [hm]; exact h a ha)
theorem CX.seq {x y : Code} (h : CX F n P D N w x (Exit.then (y.wpIn F n P Q) Q) S) : CX F n P D N w (.seq x y) Q S := fun a ha => wpIn_seq (h a ha)
theorem WX.nil {K : Act → World → Prop} (h : ∀ a, AgreeD D N S a → K a w) : WX F n P D N w ops [] (Exit.then K Q) S := fun a ha => h a ha
theorem WX.imm (hI : Imm M w) (hF : Wide F) (hi : ops[i]? = some o) (hg : o.guard = none) (hnd : ∀ c, o.op ≠ .defer c) (hd : o.dst = some d) (hN : Nat.blt d N = true) (hp : FImm P o M S v) (h : WX F n P D N w ops l Q ((d, v) :: S)) : WX F n P D N w ops (i :: l) Q S := fun a ha =>
  opsIn_go hF hi hg hnd (by rw [hp _ ha.val w hI]; show wpOpsIn _ _ _ _ _ _ _ _; rw [hd]; exact h _ (ha.put (by simpa [Nat.blt_eq] using hN) v))
theorem WX.pure (hF : Wide F) (hi : ops[i]? = some o) (hg : o.guard = none) (hnd : ∀ c, o.op ≠ .defer c) (hd : o.dst = some d) (hN : Nat.blt d N = true) (hp : FPure P o S v) (h : WX F n P D N w ops l Q ((d, v) :: S)) : WX F n P D N w ops (i :: l) Q S :=
  WX.imm (M := fun _ => none) (fun _ _ e => by cases e) hF hi hg hnd hd hN (fun ρ hρ w _ => hp ρ hρ w) h
theorem AgreeD.sub {S' : Slots} {a : Act} (h : AgreeD D N S a) (hs : Sub S' S) : AgreeD D N S' a := ⟨h.1, h.2.1, fun i v hi => h.2.2 i v (hs (i, v) (get_mem hi))⟩
end
def upto {α : Type} (f : Nat → α) (k : Nat) : List α := (List.range k).map f
theorem upto_succ {α : Type} (f : Nat → α) (k : Nat) : upto f (k + 1) = upto f k ++ [f k] := by simp [upto, List.range_succ]
theorem upto_length {α : Type} (f : Nat → α) (k : Nat) : (upto f k).length = k := by simp [upto]
def bk (zs : List W5) (j : Nat) : Int × W5 := ((zs.length : Int) - 1 - j, zs.getD (zs.length - 1 - j) w5d)
theorem w64 {n : Int} (h0 : -9223372036854775808 ≤ n) (h1 : n ≤ 9223372036854775807) : IntKind.i64.wrap n = n := IntWalk.i64_in n ⟨h0, h1⟩
theorem WX.call {D : List Deferred} {N : Nat} {S : Slots} {F : Fence} {n : Nat} {P : Program} {w : World} {Q : Exit → Act → World → Prop} {ops : Array Oper} {l : List Nat} {i d : Nat} {o : Oper} {cl : Call} {fo : Operand} {ly : Nat} {args : Array Value} {fn : FuncId} {tmps : Array Value} {asg bdy : Code}
    (hF : Wide F) (hi : ops[i]? = some o) (hg : o.guard = none) (hd : o.dst = some d) (hN : Nat.blt d N = true) (ho : o.op = .call cl) (hcal : cl.callee = .value fo) (hf : ev S fo = some (.func (.yield ly) #[] #[])) (hargs : ∀ ρ, Val S ρ → cl.args.map ρ = args)
    (hy : (Instr.yield ly args).run P w = .ok (.round ly fn tmps asg bdy) w) {R : Ending → World → Prop} (hR : RoundIn F (n - 1) P ly fn tmps asg bdy w R) (h : ∀ a en w', AgreeD D N S a → R en w' → ∃ v, en = .returned v ∧ wpOpsIn F n P ops Q l (a.put (some d) v) w') : WX F n P D N w ops (i :: l) Q S := fun a ha =>
  opsIn_go hF hi hg (fun c hx => by rw [ho] at hx; cases hx) (by
    have e : (execOp a.eval o).run P w = .ok (.round ly fn tmps asg bdy) w := by
      simp only [execOp, ho, resolve, hcal, hargs _ ha.val]
      rw [ha.val _ _ hf]
      show (Instr.yield ly (#[] ++ args)).run P w = _
      simpa using hy
    rw [e, Oper.uponIn_round]
    refine ⟨fun hx => (by rw [hF.depth] at hx; cases hx), hR.mono fun en w' hr => ?_⟩
    obtain ⟨v, rfl, hw⟩ := h a en w' ha hr
    show wpOpsIn _ _ _ _ _ _ _ _
    rw [hd]; exact hw)
theorem callsIn_of_CX {F : Fence} {n N : Nat} {P : Program} {f : FuncId} {fn : Func} {c : Code} {args : Array Value} {w : World} {S : Slots} {R : Ending → World → Prop} (hF : Wide F) (hro : F.round = none) (hf : P.funcs[f]? = some fn) (hb : fn.body = some c) (hN : fn.ntmps = N) (hsz : Nat.ble args.size N = true) (hS : ∀ p ∈ S, args[p.1]? = some p.2)
    (h : CX F n P [] N w c (bodyPost P fn R) S) : CallsIn F n P f args w R := by
  refine callsIn_of_wp hf hb (hF.fn _) (h _ ⟨rfl, ?_, fun i v hi => ?_⟩) hro
  · have := Nat.le_of_ble_eq_true hsz
    simp; omega
  · have := hS (i, v) (get_mem hi)
    simp only at this ⊢
    rw [Array.getElem?_append_left (lt_of_get this)]; exact this
theorem back1 {F : Fence} {n : Nat} (hF : Wide F) (hro : F.round = none) (l Bs n₀ : Nat) (v : Value) (zs : List W5) (hz : zs.length ≤ 1099511627776) (J Jx : List (Int × W5) → World → Prop)
    (hY : ∀ pre x W, J pre W → pre.length < zs.length → YieldAt F (n - 1) Try.prog l #[.int .i64 x.1, .agg (wrc x.2.1)] W fun e W' => (e = .returned (.bool true) ∧ J (pre ++ [x]) W' ∧ Below n₀ W W') ∨ (e = .returned (.bool false) ∧ Jx (pre ++ [x]) W'))
    (W : World) (M : Mem) (hM : ∀ b o, M b = some o → b < n₀) (hW : Imm M W) (hBs : M Bs = some (.cells #[v] 59 (0, 0))) (hr : RowS ShWr M v (zs.map (·.1))) (h0 : J [] W) :
    CallsIn F n Try.prog 51 #[.func (.yield l) #[] #[], ptr Bs 0] W fun e W' => (∃ v, e = .returned v) ∧ (J (upto (bk zs) zs.length) W' ∨ ∃ k, k ≤ zs.length ∧ Jx (upto (bk zs) k) W') := by
  have hsl : ∃ a c, v = .slice a zs.length c := by simpa using hr.sl
  obtain ⟨cs, hcs, hch⟩ := id hr
  rw [List.length_map] at hcs
  have himm : ∀ W', Below n₀ W W' → Imm M W' := fun W' hb b o e => by rw [hb.block b (hM b o e)]; exact hW b o e
  let S0 : Slots := [(0, .func (.yield l) #[] #[]), (1, ptr Bs 0)]
  refine callsIn_of_CX hF hro Try.func51 bd51 nt51 rfl (S := S0) (by simp [S0]) ?_
  · show CX F n Try.prog [] 19 W (sub [] B51) _ S0
    refine CX.seq (x := sub [0] B51) (y := sub [1] B51) ?_
    refine CX.region (id := 0) (m := 4) (ops := opsOf (sub [0] B51)) rfl ?_
    show WX _ _ _ _ _ _ _ [0, 1, 2, 3] _ _
    refine WX.imm (o := opAt (opsOf (sub [0] B51)) 0) (d := 4) hW hF rfl rfl (fun c h => by cases h) rfl rfl (i_loadBox hBs rfl ta59 rfl rfl) ?_
    refine WX.pure (o := opAt (opsOf (sub [0] B51)) 1) (d := 5) hF rfl rfl (fun c h => by cases h) rfl rfl (p_slLen tu59 hsl rfl rfl) ?_
    refine WX.pure (o := opAt (opsOf (sub [0] B51)) 2) (d := 6) hF rfl rfl (fun c h => by cases h) rfl rfl (p_sub rfl rfl rfl) ?_
    refine WX.pure (o := opAt (opsOf (sub [0] B51)) 3) (d := 3) hF rfl rfl (fun c h => by cases h) rfl rfl (p_assign rfl rfl) ?_
    rw [w64 (by omega) (by omega)]
    refine WX.nil fun a ha => ?_
    refine wpIn_block (id := 0) (c := sub [1, 0] B51) ?_
    let Sk : Nat → Slots := fun k => [(0, .func (.yield l) #[] #[]), (1, ptr Bs 0), (3, .int .i64 ((zs.length : Int) - 1 - k))]
    refine wpIn_loop (c := sub [1, 0, 0] B51) (fun a w => ∃ k, k ≤ zs.length ∧ AgreeD [] 19 (Sk k) a ∧ Below n₀ W w ∧ J (upto (bk zs) k) w) (fun a _ => (intOf (a.tmps.getD 3 undef) + 1).toNat) ⟨0, Nat.zero_le _, ha.sub ?_, Below.refl _ _, h0⟩ ?_
    · exact Sub.cons rfl (Sub.cons rfl (Sub.cons (by simp [HW.get]) (Sub.nil _)))
    · rintro a w ⟨k, hk, hag, hb, hj⟩
      have hI := himm w hb
      have hmu : (intOf (a.tmps.getD 3 undef) + 1).toNat = zs.length - k := by
        have := hag.2.2 3 _ rfl
        rw [Array.getD_eq_getD_getElem?, this]
        show ((zs.length : Int) - 1 - k + 1).toNat = _
        omega
      refine (show CX F n Try.prog [] 19 w (sub [1, 0, 0] B51) _ (Sk k) from ?_) a hag
      refine CX.seq (x := sub [1, 0, 0, 0] B51) (y := sub [1, 0, 0, 1] B51) ?_
      refine CX.seq (x := sub [1, 0, 0, 0, 0] B51) (y := sub [1, 0, 0, 0, 1] B51) ?_
      refine CX.region (id := 1) (m := 2) (ops := opsOf (sub [1, 0, 0, 0, 0] B51)) rfl ?_
      show WX _ _ _ _ _ _ _ [0, 1] _ _
      refine WX.pure (o := opAt (opsOf (sub [1, 0, 0, 0, 0] B51)) 0) (d := 7) hF rfl rfl (fun c h => by cases h) rfl rfl (p_move rfl rfl) ?_
      refine WX.pure (o := opAt (opsOf (sub [1, 0, 0, 0, 0] B51)) 1) (d := 8) hF rfl rfl (fun c h => by cases h) rfl rfl (p_geq rfl rfl rfl) ?_
      refine WX.nil fun a1 ha1 => ?_
      by_cases hc : k < zs.length
      · refine wpIn_cond_true (c := .tmp 8) (x := sub [1, 0, 0, 0, 1, 0] B51) (y := sub [1, 0, 0, 0, 1, 1] B51) ?_ ?_
        · have := ha1.val (.tmp 8) _ rfl
          rw [this]
          congr 1
          exact decide_eq_true (by omega)
        refine wpIn_skip ?_
        show (sub [1, 0, 0, 1] B51).wpIn F n Try.prog _ a1 w
        refine wpIn_seq (x := sub [1, 0, 0, 1, 0] B51) (y := sub [1, 0, 0, 1, 1] B51) ?_
        refine wpIn_block (id := 1) (c := sub [1, 0, 0, 1, 0, 0] B51) ?_
        refine wpIn_seq (x := sub [1, 0, 0, 1, 0, 0, 0] B51) (y := sub [1, 0, 0, 1, 0, 0, 1] B51) ?_
        obtain ⟨fn, tmps, asg, bdy, hy, hR⟩ := hY (upto (bk zs) k) (bk zs k) w hj (by rw [upto_length]; exact hc)
        refine (show CX F n Try.prog [] 19 w (sub [1, 0, 0, 1, 0, 0, 0] B51) _ (Sk k) from ?_) a1 (ha1.sub (Sub.cons rfl (Sub.cons rfl (Sub.cons rfl (Sub.nil _)))))
        refine CX.region (id := 3) (m := 8) (ops := opsOf (sub [1, 0, 0, 1, 0, 0, 0] B51)) rfl ?_
        show WX _ _ _ _ _ _ _ [0, 1, 2, 3, 4, 5, 6, 7] _ _
        refine WX.pure (o := opAt (opsOf (sub [1, 0, 0, 1, 0, 0, 0] B51)) 0) (d := 11) hF rfl rfl (fun c h => by cases h) rfl rfl (p_move rfl rfl) ?_
        refine WX.pure (o := opAt (opsOf (sub [1, 0, 0, 1, 0, 0, 0] B51)) 1) (d := 12) hF rfl rfl (fun c h => by cases h) rfl rfl (p_move rfl rfl) ?_
        refine WX.imm (o := opAt (opsOf (sub [1, 0, 0, 1, 0, 0, 0] B51)) 2) (d := 13) hI hF rfl rfl (fun c h => by cases h) rfl rfl (i_loadBox hBs rfl ta59 rfl rfl) ?_
        refine WX.pure (o := opAt (opsOf (sub [1, 0, 0, 1, 0, 0, 0] B51)) 3) (d := 14) hF rfl rfl (fun c h => by cases h) rfl rfl (p_move rfl rfl) ?_
        have hi0 : (0 : Int) ≤ (zs.length : Int) - 1 - k := by omega
        have hi1 : (zs.length : Int) - 1 - k < (zs.length : Int) := by omega
        have hti : ((zs.length : Int) - 1 - k).toNat = zs.length - 1 - k := by omega
        refine WX.pure (o := opAt (opsOf (sub [1, 0, 0, 1, 0, 0, 0] B51)) 4) (d := 15) hF rfl rfl (fun c h => by cases h) rfl rfl (p_slIx tu59 ts64 (RowV.some hcs hi0 hi1) hi0 hi1 rfl rfl rfl) ?_
        rw [hti]
        have hx : (zs.map (·.1))[zs.length - 1 - k]? = some (zs.getD (zs.length - 1 - k) w5d).1 := by
          have hlt : zs.length - 1 - k < zs.length := by omega
          rw [List.getElem?_map, List.getElem?_eq_getElem hlt]
          simp [List.getElem?_eq_getElem hlt]
        have hchk := (hch _ _ hx).1
        refine WX.imm (o := opAt (opsOf (sub [1, 0, 0, 1, 0, 0, 0] B51)) 5) (d := 16) hI hF rfl rfl (fun c h => by cases h) rfl rfl (i_loadElA hcs hchk (by omega) ta64 ts64 rfl rfl) ?_
        refine WX.call (o := opAt (opsOf (sub [1, 0, 0, 1, 0, 0, 0] B51)) 6) (d := 17) (args := #[.int .i64 (bk zs k).1, .agg (wrc (bk zs k).2.1)]) hF rfl rfl rfl rfl rfl rfl rfl (args_val (vs := [.int .i64 (bk zs k).1, .agg (wrc (bk zs k).2.1)]) rfl) hy hR fun a2 en w2 ha2 hr2 => ?_
        rcases hr2 with ⟨rfl, hj2, hb2⟩ | ⟨rfl, hx2⟩
        · refine ⟨_, rfl, ?_⟩
          refine (show WX F n Try.prog [] 19 w2 _ [7] _ ((17, .bool true) :: Sk k) from ?_) _ ?_
          · refine WX.pure (o := opAt (opsOf (sub [1, 0, 0, 1, 0, 0, 0] B51)) 7) (d := 18) hF rfl rfl (fun c h => by cases h) rfl rfl (p_not rfl rfl) ?_
            refine WX.nil fun a3 ha3 => ?_
            refine wpIn_cond_false (c := .tmp 18) (x := sub [1, 0, 0, 1, 0, 0, 1, 0] B51) (y := sub [1, 0, 0, 1, 0, 0, 1, 1] B51) (ha3.val (.tmp 18) _ rfl) ?_
            refine wpIn_skip ?_
            show (sub [1, 0, 0, 1, 1] B51).wpIn F n Try.prog _ a3 w2
            refine (show CX F n Try.prog [] 19 w2 (sub [1, 0, 0, 1, 1] B51) _ (Sk k) from ?_) a3 (ha3.sub (Sub.cons rfl (Sub.cons rfl (Sub.cons rfl (Sub.nil _)))))
            refine CX.region (id := 2) (m := 3) (ops := opsOf (sub [1, 0, 0, 1, 1] B51)) rfl ?_
            show WX _ _ _ _ _ _ _ [0, 1, 2] _ _
            refine WX.pure (o := opAt (opsOf (sub [1, 0, 0, 1, 1] B51)) 0) (d := 9) hF rfl rfl (fun c h => by cases h) rfl rfl (p_move rfl rfl) ?_
            refine WX.pure (o := opAt (opsOf (sub [1, 0, 0, 1, 1] B51)) 1) (d := 10) hF rfl rfl (fun c h => by cases h) rfl rfl (p_sub rfl rfl rfl) ?_
            refine WX.pure (o := opAt (opsOf (sub [1, 0, 0, 1, 1] B51)) 2) (d := 3) hF rfl rfl (fun c h => by cases h) rfl rfl (p_assign rfl rfl) ?_
            rw [w64 (by omega) (by omega)]
            refine WX.nil fun a4 ha4 => ?_
            refine ⟨⟨k + 1, by omega, ha4.sub (Sub.cons rfl (Sub.cons rfl (Sub.cons ?_ (Sub.nil _)))), hb.trans hb2, by rw [upto_succ]; exact hj2⟩, ?_⟩
            · show some _ = some _
              congr 2; omega
            · have := ha4.2.2 3 _ rfl
              rw [hmu, Array.getD_eq_getD_getElem?, this]
              show ((zs.length : Int) - 1 - k - 1 + 1).toNat < _
              omega
          · exact (ha2.put (by decide) _).sub (Sub.cons rfl (Sub.cons rfl (Sub.cons rfl (Sub.cons rfl (Sub.nil _)))))
        · refine ⟨_, rfl, ?_⟩
          refine (show WX F n Try.prog [] 19 w2 _ [7] _ ((17, .bool false) :: Sk k) from ?_) _ ?_
          · refine WX.pure (o := opAt (opsOf (sub [1, 0, 0, 1, 0, 0, 0] B51)) 7) (d := 18) hF rfl rfl (fun c h => by cases h) rfl rfl (p_not rfl rfl) ?_
            refine WX.nil fun a3 ha3 => ?_
            refine wpIn_cond_true (c := .tmp 18) (x := sub [1, 0, 0, 1, 0, 0, 1, 0] B51) (y := sub [1, 0, 0, 1, 0, 0, 1, 1] B51) (ha3.val (.tmp 18) _ rfl) ?_
            refine wpIn_ret ?_
            refine bodyPost_ret (R := fun e W' => (∃ v, e = .returned v) ∧ (J (upto (bk zs) zs.length) W' ∨ ∃ k, k ≤ zs.length ∧ Jx (upto (bk zs) k) W')) (results_none (by kernel_rfl) _ _ _) ha3.1 ?_
            exact ⟨⟨_, rfl⟩, .inr ⟨k + 1, by omega, by rw [upto_succ]; exact hx2⟩⟩
          · exact (ha2.put (by decide) _).sub (Sub.cons rfl (Sub.cons rfl (Sub.cons rfl (Sub.cons rfl (Sub.nil _)))))
      · obtain rfl : k = zs.length := by omega
        refine wpIn_cond_false (c := .tmp 8) (x := sub [1, 0, 0, 0, 1, 0] B51) (y := sub [1, 0, 0, 0, 1, 1] B51) ?_ ?_
        · have := ha1.val (.tmp 8) _ rfl
          rw [this]
          congr 1
          exact decide_eq_false (by omega)
        refine wpIn_exit (id := 0) ?_
        refine bodyPost_end (R := fun e W' => (∃ v, e = .returned v) ∧ (J (upto (bk zs) zs.length) W' ∨ ∃ k, k ≤ zs.length ∧ Jx (upto (bk zs) k) W')) (results_none (by kernel_rfl) _ _ _) ha1.1 ?_
        exact ⟨⟨_, rfl⟩, .inl hj⟩
end Go.Proofs.Ytjomnicfcdkfdaa
end

section
namespace Go.Proofs.Ytjomnicfcdkfdaa
open Go Go.HW Go.RowKit
set_option linter.unusedVariables false
set_option linter.unusedSimpArgs false

/-- A disk, as it stands in memory. -/
structure DkM (M : Mem) (b m : Nat) (v : Value) (s : Dk) : Prop where
  hb : M b = some (.cells #[.int .i64 s.n, .map (some m), v, .int .i64 s.fuse, .bool s.armed, .bool s.dead] 61 (0, 0))
  hm : M m = some (dmap s.set)
  hr : RowS ShWr M v s.late
  hs : Full s.set
theorem DkM.mono {M M' : Mem} {b m : Nat} {v : Value} {s : Dk} (h : DkM M b m v s) (he : Ext M M') : DkM M' b m v s := ⟨he _ _ h.hb, he _ _ h.hm, h.hr.mono he, h.hs⟩
def lfind : List Wr → Int → Option (List Int)
  | [], _ => none
  | (a, b) :: r, k => if a == k then some b else lfind r k
/-- A block as it was written last. -/
def rd (s : Dk) (n : Int) : List Int := (lfind s.late.reverse n).getD (mget s.set n)

theorem seqStops {F : Fence} {n : Nat} (hF : Wide F) (hro : F.round = none) (Bs : Nat) (v : Value) (zs : List W5) (hz : zs.length ≤ 1099511627776) (w : World) (M : Mem) (hM : ∀ b o, M b = some o → b < w.heap.size) (hW : Imm M w) (hBs : M Bs = some (.cells #[v] 59 (0, 0))) (hr : RowS ShWr M v (zs.map (·.1))) :
    SeqStopsK F n Try.prog 51 #[ptr Bs 0] (fun x : Int × W5 => #[.int .i64 x.1, .agg (wrc x.2.1)]) (Below w.heap.size) (fun xs => xs = upto (bk zs) zs.length) (fun pre => ∃ k, k ≤ zs.length ∧ pre = upto (bk zs) k) zs.length w := by
  intro l J Jx W hb _ _ hY h0
  have himm : Imm M W := fun b o e => by rw [hb.block b (hM b o e)]; exact hW b o e
  refine (back1 hF hro l Bs w.heap.size v zs hz J Jx hY W M hM himm hBs hr h0).mono ?_
  rintro e W' ⟨he, hj | ⟨k, hk, hj⟩⟩
  · exact ⟨he, .inl ⟨_, rfl, hj⟩⟩
  · exact ⟨he, .inr ⟨_, ⟨k, hk, rfl⟩, hj⟩⟩
theorem cls_grown {w0 W W' : World} {I : Mem} {H : Heap} {row : Option Nat} {B : Nat} (h : Cls w0 I H W) (hI : ∀ b o, I b = some o → b < B) (hH : ∀ b o, (some b, o) ∈ H → b < B) (hg : W.grownBy W' row) (hr : ∀ r, row = some r → B ≤ r) : Cls w0 I H W' := by
  have hne : ∀ b, b < B → some b ≠ row := fun b hb e => by have := hr b e.symm; omega
  exact ⟨hg.os.trans h.os, hg.tape.trans h.tape, hg.output.trans h.output, Nat.le_trans h.size hg.size, fun b o e => by rw [hg.block b (lt_of_get (h.imm b o e)) (hne b (hI b o e))]; exact h.imm b o e,
    fun b o e => by rw [hg.block b (lt_of_get (h.own b o e)) (hne b (hH b o e))]; exact h.own b o e, h.disj, h.nodup⟩

theorem tz62 (w : World) : (zeroValue 62).run Try.prog w = .ok (Blk zeros) w := by kernel_rfl
theorem tz64 (w : World) : (zeroValue 64).run Try.prog w = .ok (.agg (wrc (0, zeros))) w := by kernel_rfl
theorem ta62 (w : World) : (isAgg 62).run Try.prog w = .ok true w := by kernel_rfl
theorem ts62 (w : World) : (sizeOf 62).run Try.prog w = .ok 512 w := by kernel_rfl
theorem ta3 (w : World) : (isAgg 3).run Try.prog w = .ok false w := by kernel_rfl
theorem ta58 (w : World) : (isAgg 58).run Try.prog w = .ok false w := by kernel_rfl
theorem tu58 (w : World) : (underlying 58).run Try.prog w = .ok (.map 3 62) w := by kernel_rfl
theorem tu3 (w : World) : (underlying 3).run Try.prog w = .ok (.int .i64) w := by kernel_rfl
theorem tf61_0 (a : Addr) (w : World) : (Instr.fieldAt 61 (.pointer (some a)) 0).run Try.prog w = .ok (.pointer (some (a.add 0))) w := by kernel_rfl
theorem tf61_1 (a : Addr) (w : World) : (Instr.fieldAt 61 (.pointer (some a)) 1).run Try.prog w = .ok (.pointer (some (a.add 1))) w := by kernel_rfl
theorem tf61_2 (a : Addr) (w : World) : (Instr.fieldAt 61 (.pointer (some a)) 2).run Try.prog w = .ok (.pointer (some (a.add 2))) w := by kernel_rfl
theorem tf61_3 (a : Addr) (w : World) : (Instr.fieldAt 61 (.pointer (some a)) 3).run Try.prog w = .ok (.pointer (some (a.add 3))) w := by kernel_rfl
theorem tf61_4 (a : Addr) (w : World) : (Instr.fieldAt 61 (.pointer (some a)) 4).run Try.prog w = .ok (.pointer (some (a.add 4))) w := by kernel_rfl
theorem tf61_5 (a : Addr) (w : World) : (Instr.fieldAt 61 (.pointer (some a)) 5).run Try.prog w = .ok (.pointer (some (a.add 5))) w := by kernel_rfl
theorem tf64_0 (a : Addr) (w : World) : (Instr.fieldAt 64 (.pointer (some a)) 0).run Try.prog w = .ok (.pointer (some (a.add 0))) w := by kernel_rfl
theorem tf64_1 (a : Addr) (w : World) : (Instr.fieldAt 64 (.pointer (some a)) 1).run Try.prog w = .ok (.pointer (some (a.add 1))) w := by kernel_rfl
theorem mixedT : Try.prog.follows .mixedOrders = true := by kernel_rfl
theorem wrc_size {x : Wr} (h : x.2.length = 512) : (wrc x).size = 513 := by simp [wrc, enc_size, h]
theorem wrc_drop {x : Wr} (h : x.2.length = 512) : ((wrc x).toList.drop 1).take 512 = encl .u8 x.2 := by
  simp only [wrc, Array.toList_append, List.cons_append, List.nil_append, List.drop_succ_cons, List.drop_zero]
  rw [List.take_of_length_le (by simp [enc, h])]
  simp [enc, encl]
theorem wrc_one {x : Wr} : ∀ u ∈ (wrc x).toList, OneCell u := fun u hu => by
  simp only [wrc, Array.toList_append, List.mem_append] at hu
  rcases hu with hu | hu
  · simp at hu; subst hu; trivial
  · exact enc_oneCell _ _ u hu
/-! #### a region that draws its order, with calls that are deferred -/
section
variable {D : List Deferred} {N : Nat} {S : Slots} {P : Program} {w0 : World} {I : Mem} {H : Heap} {ops : Array Oper} {lab : Lab} {ids : Nat → Option Nat} {l : List Nat} {i d : Nat} {o : Oper} {v : Value} {Q : Act → Heap → Prop}
def DE (P : Program) (D : List Deferred) (N : Nat) (w0 : World) (I : Mem) (ops : Array Oper) (lab : Lab) (ids : Nat → Option Nat) (Q : Act → Heap → Prop) (l : List Nat) (S : Slots) (H : Heap) : Prop := ∀ a, AgreeD D N S a → listD P ops w0 I lab ids Q l a H
theorem DE.imm (hi : ops[i]? = some o) (hg : o.guard = none) (hd : o.dst = some d) (hN : Nat.blt d N = true) (hk : (lab i).1 = .pure) (hp : FImm P o I S v) (h : DE P D N w0 I ops lab ids Q l ((d, v) :: S) H) : DE P D N w0 I ops lab ids Q (i :: l) S H := fun a ha => by
  show stepD P ops w0 I lab ids i _ a H
  unfold stepD
  rw [hi]
  intro _
  exact ⟨.val v, .inl ⟨by simp [Region.wanted, hg], .inl ⟨hk, hp _ ha.val⟩⟩, by show listD _ _ _ _ _ _ _ _ _ _; rw [hd]; exact h _ (ha.put (by simpa [Nat.blt_eq] using hN) v)⟩
theorem DE.put {H' : Heap} (hi : ops[i]? = some o) (hg : o.guard = none) (hd : o.dst = none) (hk : (lab i).1 = .store) (hn : (lab i).2 = none) (hp : FPut P o w0 I S H H') (h : DE P D N w0 I ops lab ids Q l S H') : DE P D N w0 I ops lab ids Q (i :: l) S H := fun a ha => by
  show stepD P ops w0 I lab ids i _ a H
  unfold stepD
  rw [hi]
  intro _
  exact ⟨.put H', .inl ⟨by simp [Region.wanted, hg], hk, fun w hc => hp _ ha.val w hc, keep_none hn⟩, by show listD _ _ _ _ _ _ _ _ _ _; rw [hd]; exact h _ (show AgreeD D N S (a.put none undef) from ha)⟩
end

/-! #### what came, and what is found -/
theorem bk_upto (zs : List W5) : ∀ k, k ≤ zs.length → (upto (bk zs) k).map (fun p => p.2.1) = (zs.reverse.take k).map (·.1)
  | 0, _ => rfl
  | k + 1, h => by
    rw [upto_succ, List.map_append, bk_upto zs k (by omega), List.take_add_one, List.map_append]
    congr 1
    have hlt : k < zs.reverse.length := by simp; omega
    rw [List.getElem?_eq_getElem hlt]
    simp only [List.map_cons, List.map_nil, Option.toList_some, List.cons.injEq, and_true]
    rw [List.getElem_reverse]
    have h2 : zs.length - 1 - k < zs.length := by omega
    simp [bk, List.getElem?_eq_getElem h2]
theorem lfind_none : ∀ {l : List Wr} {n : Int}, (∀ p ∈ l, p.1 ≠ n) → lfind l n = none
  | [], _, _ => rfl
  | (a, b) :: r, n, h => by
    have h1 : ¬ a = n := h (a, b) (by simp)
    unfold lfind
    rw [if_neg (by simpa using h1)]
    exact lfind_none fun p hp => h p (by simp [hp])
theorem lfind_some : ∀ {l1 l2 : List Wr} {n : Int} {b : List Int}, (∀ p ∈ l1, p.1 ≠ n) → lfind (l1 ++ (n, b) :: l2) n = some b
  | [], l2, n, b, _ => by simp [lfind]
  | (a, c) :: r, l2, n, b, h => by
    have h1 : ¬ a = n := h (a, c) (by simp)
    simp only [List.cons_append, lfind]
    rw [if_neg (by simpa using h1)]
    exact lfind_some fun p hp => h p (by simp [hp])

end Go.Proofs.Ytjomnicfcdkfdaa
end
