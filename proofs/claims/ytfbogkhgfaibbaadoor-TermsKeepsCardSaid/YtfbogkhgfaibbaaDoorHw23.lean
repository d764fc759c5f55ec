import Derived.Test.YtfbogkhgfaibbaaDoorHw22
import Derived.OrdersIn
import Derived.RangeFuncIn
import Derived.RangeFuncRecord
import Derived.RangeFuncLeaves
namespace Go.HW
open Go Go.RowKit
set_option linter.unusedVariables false
set_option linter.unusedSimpArgs false

/-! ### code in the frame of a round, or with a mark among the deferred calls -/
/-- The wide fence; in a loop's round, or not. -/
abbrev FR (r : Option Nat) : Fence := { Fence.wide with round := r }
theorem callsFR {r : Option Nat} {n : Nat} {P : Program} {f : FuncId} {args : Array Value} {w : World} {R : Ending → World → Prop} (h : Calls P f args w R) : CallsIn (FR r) n P f args w R := callsIn_wide.2 h
theorem FR_dep {r : Option Nat} {n : Nat} : (FR r).depth.isSome = true → 1 ≤ n := fun h => by cases h
def wd (D : List Deferred) (a : Act) : Act := { a with defers := D }
theorem wd_put (D : List Deferred) (a : Act) (d : Option Nat) (v : Value) : (wd D a).put d v = wd D (a.put d v) := by cases d <;> rfl
theorem wd_eval (D : List Deferred) (a : Act) : (wd D a).eval = a.eval := funext fun x => by cases x <;> rfl
theorem wd_nil {N : Nat} {S : Slots} {a : Act} (h : Agree N S a) : wd [] a = a := by
  obtain ⟨h1, _⟩ := h
  cases a; simp only at h1; subst h1; rfl
def noDefer (ops : Array Oper) : Bool := ops.all fun o => match o.op with
  | .defer _ => false
  | _ => true
theorem noDefer_at {ops : Array Oper} (h : noDefer ops = true) {i : Nat} {o : Oper} (hi : ops[i]? = some o) : ∀ c, o.op ≠ .defer c := fun c e => by
  unfold noDefer at h
  rw [Array.all_eq_true] at h
  obtain ⟨hlt, hk⟩ := Array.getElem?_eq_some_iff.1 hi
  have := h i hlt
  rw [hk, e] at this
  cases this

section
variable {P : Program} {ops : Array Oper} {w0 : World} {I : Mem} {lab : Lab} {ids : Nat → Option Nat} {rd : Option Nat} {n : Nat} {D : List Deferred}
theorem wpOpIn_of_stepD (hnd : noDefer ops = true) {i : Nat} {K : Act → Heap → Prop} {K' : Act → World → Prop} {Q : Exit → Act → World → Prop} {a : Act} {H : Heap} {w : World} (hc : Cls w0 I H w)
    (hK : ∀ a H w, Cls w0 I H w → K a H → K' (wd D a) w) (h : stepD P ops w0 I lab ids i K a H) : wpOpIn (FR rd) n P ops Q i K' (wd D a) w := by
  have h := h ⟨w, hc⟩
  unfold wpOpIn
  split
  · rename_i ho; rw [ho] at h; exact hK _ _ _ hc h
  · rename_i o ho
    rw [ho] at h
    obtain ⟨e, hd, ha⟩ := h
    have hsem : (o.semAt (FR rd).round (wd D a).eval) = execOp a.eval o := by rw [Oper.semAt_eq _ _ _ (noDefer_at hnd ho), wd_eval]
    rcases hd with ⟨hw, hd⟩ | ⟨hw, rfl⟩
    · rw [if_pos (show Region.wanted o (yielded ops (wd D a).tmps) = true from hw)]
      refine ⟨fun _ _ => trivial, ?_⟩
      rw [hsem]
      cases e with
      | val v =>
        have hq : QuietRun P o a w v := by
          rcases hd with ⟨_, hd⟩ | ⟨_, hd⟩ | ⟨_, x, b, ob, _, _, hm, hd⟩
          · exact .inl (hd w hc.imm)
          · exact hd w hc
          · exact .inl (hd w (hc.own _ _ hm))
        rcases hq with hq | ⟨g, args, hq, hcalls⟩
        · rw [hq]; show K' ((wd D a).put o.dst v) w; rw [wd_put]; exact hK _ _ _ hc ha
        · rw [hq, Oper.uponIn_enter]
          exact ⟨FR_dep, (callsFR hcalls).mono fun e w' ⟨he, hb⟩ => by subst he; show K' ((wd D a).put o.dst v) w'; rw [wd_put]; exact hK _ _ _ (hc.below hb) ha⟩
      | new ob mk => rw [hd.2 w]; show K' ((wd D a).put o.dst _) _; rw [wd_put]; exact hK _ _ _ (hc.alloc ob) (ha _ hc.size)
      | put H' =>
        obtain ⟨w', hr, hc'⟩ := hd.2.1 w hc
        rw [hr]; show K' ((wd D a).put o.dst _) _; rw [wd_put]; exact hK _ _ _ hc' ha
      | act X v H' =>
        rcases hd.2 w hc with ⟨x, w', hr, hc'⟩ | ⟨x, w', hr, hv, hc'⟩ | ⟨g, args, w1, hr, hcalls⟩
        · rw [hr]; show K' ((wd D a).put o.dst _) _; rw [wd_put]; exact hK _ _ _ hc' (ha x)
        · rw [hr]
          have h1 := ha x
          rw [hv] at h1
          show K' ((wd D a).put o.dst _) _; rw [wd_put]
          exact hK _ _ _ hc' h1
        · rw [hr, Oper.uponIn_enter]
          exact ⟨FR_dep, (callsFR hcalls).mono fun e w' ⟨x, he, hc'⟩ => by subst he; show K' ((wd D a).put o.dst _) w'; rw [wd_put]; exact hK _ _ _ hc' (ha x)⟩
    · rw [if_neg (show ¬ Region.wanted o (yielded ops (wd D a).tmps) = true by show ¬ Region.wanted o (yielded ops a.tmps) = true; rw [hw]; exact Bool.false_ne_true)]
      refine ⟨fun _ _ => trivial, ?_⟩
      rw [wd_put]; exact hK _ _ _ hc ha
theorem wpOpsIn_of_listD (hnd : noDefer ops = true) {Q : Act → Heap → Prop} {Q' : Exit → Act → World → Prop} (hQ : ∀ a H w, Cls w0 I H w → Q a H → Q' .normal (wd D a) w) :
    ∀ (l : List Nat) (a : Act) (H : Heap) (w : World), Cls w0 I H w → listD P ops w0 I lab ids Q l a H → wpOpsIn (FR rd) n P ops Q' l (wd D a) w
  | [], _, _, _, hc, h => hQ _ _ _ hc h
  | i :: l, _, _, _, hc, h => by
    rw [wpOpsIn_cons]
    exact wpOpIn_of_stepD hnd hc (fun a' H' w' hc' h' => wpOpsIn_of_listD hnd hQ l a' H' w' hc' h') h
theorem wpAnyIn_of_anyD (hnd : noDefer ops = true) {Q : Act → Heap → Prop} {Q' : Exit → Act → World → Prop} (hQ : ∀ a H w, Cls w0 I H w → Q a H → Q' .normal (wd D a) w) :
    ∀ (k : Nat) (listed : Array Bool) (a : Act) (H : Heap) (w : World), Cls w0 I H w → anyD P ops w0 I lab ids Q k listed a H → wpAnyIn (FR rd) n P .any ops Q' k listed (wd D a) w
  | 0, _, _, _, _, hc, h => ⟨(h ⟨_, hc⟩).1, hQ _ _ _ hc (h ⟨_, hc⟩).2⟩
  | k + 1, _, _, _, _, hc, h => ⟨fun h0 => hQ _ _ _ hc (h.1 h0), fun i hi => wpOpIn_of_stepD hnd hc (fun a' H' w' hc' h' => wpAnyIn_of_anyD hnd hQ k _ a' H' w' hc' h') (h.2 i hi)⟩
end

/-- A code, from slots and a class of worlds; 'rd': the loop whose round it stands in; 'D': what is deferred. -/
def CI (rd : Option Nat) (P : Program) (D : List Deferred) (N : Nat) (w0 : World) (I : Mem) (c : Code) (Q : Exit → Act → World → Prop) (S : Slots) (H : Heap) : Prop :=
  ∀ a w, Agree N S a → Cls w0 I H w → c.wpIn (FR rd) 3 P Q (wd D a) w
section
variable {rd : Option Nat} {P : Program} {D : List Deferred} {N : Nat} {w0 : World} {I : Mem} {Q : Exit → Act → World → Prop} {S : Slots} {H : Heap} {ops : Array Oper} {c x y : Code}
theorem CI.seq (h : CI rd P D N w0 I x (Exit.then (y.wpIn (FR rd) 3 P Q) Q) S H) : CI rd P D N w0 I (.seq x y) Q S H := fun a w ha hc => wpIn_seq (h a w ha hc)
theorem CI.block {id : Nat} (h : CI rd P D N w0 I c (Exit.inBlock id Q) S H) : CI rd P D N w0 I (.block id c) Q S H := fun a w ha hc => wpIn_block (h a w ha hc)
theorem CI.cond_true {z : Operand} {p : Bool} (hc : ev S z = some (.bool p)) (hp : p = true) (h : CI rd P D N w0 I x Q S H) : CI rd P D N w0 I (.cond z x y) Q S H := fun a w ha hcl => wpIn_cond_true (by rw [wd_eval, ha.val _ _ hc, hp]) (h a w ha hcl)
theorem CI.cond_false {z : Operand} {p : Bool} (hc : ev S z = some (.bool p)) (hp : p = false) (h : CI rd P D N w0 I y Q S H) : CI rd P D N w0 I (.cond z x y) Q S H := fun a w ha hcl => wpIn_cond_false (by rw [wd_eval, ha.val _ _ hc, hp]) (h a w ha hcl)
theorem CI.skip (h : ∀ a w, Agree N S a → Cls w0 I H w → Q .normal (wd D a) w) : CI rd P D N w0 I .skip Q S H := fun a w ha hc => wpIn_skip (h a w ha hc)
theorem CI.ret (h : ∀ a w, Agree N S a → Cls w0 I H w → Q .ret (wd D a) w) : CI rd P D N w0 I .ret Q S H := fun a w ha hc => wpIn_ret (h a w ha hc)
theorem CI.perm {H' : Heap} (hp : H.Perm H') (h : CI rd P D N w0 I c Q S H') : CI rd P D N w0 I c Q S H := fun a w ha hc => h a w ha (hc.perm hp)
theorem CI.weak {S' : Slots} (h : CI rd P D N w0 I c Q S' H) (hs : Sub S' S) : CI rd P D N w0 I c Q S H := fun a w ha hc => h a w (ha.sub hs) hc
theorem CI.fewer {H' : Heap} (hs : H'.Sublist H) (h : CI rd P D N w0 I c Q S H') : CI rd P D N w0 I c Q S H := fun a w ha hc => h a w ha (hc.fewer hs)
/-- .. what a region's end asks: -/
abbrev NQ (D : List Deferred) (Q : Exit → Act → World → Prop) : Act → World → Prop := fun a w => Q .normal (wd D a) w
theorem CI.rg {id : Nat} (l : List Nat) (ll : List (Kd × Option Nat)) (hc : c = .region id (opsOf c) false) (hl : List.range (opsOf c).size = l) (hnd : noDefer (opsOf c) = true) (h : DK P N w0 I (NQ D Q) (opsOf c) (labOf ll) (fun _ => none) l S H) : CI rd P D N w0 I c Q S H := fun a w ha hcl => by
  rw [hc]
  refine wpIn_region ?_
  rw [hl]
  exact wpOpsIn_of_listD hnd (fun a' H' w' hc' h' => h' w' hc') _ _ _ _ hcl (h a ha)
theorem CI.rgD {id : Nat} (l m : List Nat) (ll : List (Kd × Option Nat)) (hc : c = .region id (opsOf c) true) (hm : P.follows .mixedOrders = true) (hnd : noDefer (opsOf c) = true) (hB : okP (opsOf c) (labOf ll) l m = true)
    (h : ∀ w1, Later w0 w1 → (∀ z y b, idsOf H z = some b → idsOf H y = some b → z = y) → (∀ z b, idsOf H z = some b → b < w1.heap.size) → DK P N w1 I (NQ D Q) (opsOf c) (labOf ll) (idsOf H) l S H) : CI rd P D N w0 I c Q S H := fun a w ha hcl => by
  rw [hc]
  have hB := okD_of_okP hB
  simp only [Bool.and_eq_true] at hB
  obtain ⟨⟨hs, hl⟩, hok⟩ := hB
  have hl' : l.length = (opsOf c).size := Nat.eq_of_beq_eq_true hl
  refine wpIn_region_any hm ?_
  rw [← hl']
  have hc' : Cls w I H { w with drawn := w.drawn + 1 } := ⟨rfl, rfl, rfl, Nat.le_refl _, hcl.imm, hcl.own, hcl.disj, hcl.nodup⟩
  have hL := h w ⟨hcl.os, hcl.tape, hcl.output, hcl.size⟩ (ids_inj hcl.nodup) (ids_lt hcl) a ha
  exact wpAnyIn_of_anyD hnd (fun a' H' w' hc' h' => h' w' hc') _ _ _ _ _ hc' (anyD_of_list Q_mono ⟨w, hcl.imm⟩ hs l _ a H (fun j oj _ hl => by rw [getD_replicate_false] at hl; cases hl) (by rw [hl']; exact hok) hL)
/-- .. where just these blocks have a number -/
theorem CI.rgDL {id : Nat} (L l m : List Nat) (ll : List (Kd × Option Nat)) (hc : c = .region id (opsOf c) true) (hm : P.follows .mixedOrders = true) (hnd : noDefer (opsOf c) = true) (hB : okP (opsOf c) (labOf ll) l m = true)
    (h : ∀ w1, Later w0 w1 → DK P N w1 I (NQ D Q) (opsOf c) (labOf ll) (fun z => if L.contains z then idsOf H z else none) l S H) : CI rd P D N w0 I c Q S H := fun a w ha hcl => by
  rw [hc]
  have hB := okD_of_okP hB
  simp only [Bool.and_eq_true] at hB
  obtain ⟨⟨hs, hl⟩, hok⟩ := hB
  have hl' : l.length = (opsOf c).size := Nat.eq_of_beq_eq_true hl
  refine wpIn_region_any hm ?_
  rw [← hl']
  have hc' : Cls w I H { w with drawn := w.drawn + 1 } := ⟨rfl, rfl, rfl, Nat.le_refl _, hcl.imm, hcl.own, hcl.disj, hcl.nodup⟩
  have hL := h w ⟨hcl.os, hcl.tape, hcl.output, hcl.size⟩ a ha
  exact wpAnyIn_of_anyD hnd (fun a' H' w' hc' h' => h' w' hc') _ _ _ _ _ hc' (anyD_of_list Q_mono ⟨w, hcl.imm⟩ hs l _ a H (fun j oj _ hl => by rw [getD_replicate_false] at hl; cases hl) (by rw [hl']; exact hok) hL)
/-- the end of a region, and on -/
theorem DK.nil {lab : Lab} {ids : Nat → Option Nat} {Kc : Act → World → Prop} {w1 : World} (h : ∀ a w, Agree N S a → Cls w1 I H w → Kc a w) : DK P N w1 I Kc ops lab ids [] S H := fun a ha w hc => h a w ha hc
theorem DK.next {lab : Lab} {ids : Nat → Option Nat} {w1 : World} {Q2 : Exit → Act → World → Prop} (hl : Later w0 w1) (hQ : Q .normal = y.wpIn (FR rd) 3 P Q2) (h : CI rd P D N w0 I y Q2 S H) : DK P N w1 I (NQ D Q) ops lab ids [] S H := fun a ha w hc => by
  show Q .normal (wd D a) w
  rw [hQ]; exact h a w ha (hc.later hl)
theorem DK.next0 {lab : Lab} {ids : Nat → Option Nat} {Q2 : Exit → Act → World → Prop} (hQ : Q .normal = y.wpIn (FR rd) 3 P Q2) (h : CI rd P D N w0 I y Q2 S H) : DK P N w0 I (NQ D Q) ops lab ids [] S H := DK.next ⟨rfl, rfl, rfl, Nat.le_refl _⟩ hQ h
theorem wpOpsIn_pre {lab : Lab} {ids : Nat → Option Nat} (hnd : noDefer ops = true) (rest : List Nat) : ∀ (pre : List Nat) (a : Act) (H : Heap) (w : World), Cls w0 I H w → listD P ops w0 I lab ids (fun a H => ∀ w, Cls w0 I H w → wpOpsIn (FR rd) 3 P ops Q rest (wd D a) w) pre a H → wpOpsIn (FR rd) 3 P ops Q (pre ++ rest) (wd D a) w
  | [], _, _, _, hc, h => h _ hc
  | i :: l, _, _, _, hc, h => by
    rw [List.cons_append, wpOpsIn_cons]
    exact wpOpIn_of_stepD hnd hc (fun a' H' w' hc' h' => wpOpsIn_pre hnd rest l a' H' w' hc' h') h
/-- a region with an operation amid it that is told apart -/
theorem CI.rgY {id : Nat} (pre rest : List Nat) (ll : List (Kd × Option Nat)) (hc : c = .region id (opsOf c) false) (hl : List.range (opsOf c).size = pre ++ rest) (hnd : noDefer (opsOf c) = true) (h : DK P N w0 I (fun a w => wpOpsIn (FR rd) 3 P (opsOf c) Q rest (wd D a) w) (opsOf c) (labOf ll) (fun _ => none) pre S H) : CI rd P D N w0 I c Q S H := fun a w ha hcl => by
  rw [hc]
  refine wpIn_region ?_
  rw [hl]
  exact wpOpsIn_pre hnd rest _ _ _ _ hcl (h a ha)
theorem wpOps_of_DK {lab : Lab} {ids : Nat → Option Nat} {l : List Nat} (hnd : noDefer ops = true) (h : DK P N w0 I (NQ D Q) ops lab ids l S H) : ∀ a w, Agree N S a → Cls w0 I H w → wpOpsIn (FR rd) 3 P ops Q l (wd D a) w := fun a w ha hc =>
  wpOpsIn_of_listD hnd (fun a' H' w' hc' h' => h' w' hc') _ _ _ _ hc (h a ha)

/-! #### a call of yield -/
/-- What a round does, as the one sees it who calls yield: 'E s' becomes 'E t', for a 't' with 'p t'; 'b t' is handed back. -/
def RoundTurn {σ : Type} (P : Program) (l : Nat) (I : Mem) (x : Value) (E : Heap) (p : σ → Prop) (b : σ → Bool) (E' : σ → Heap) : Prop :=
  ∀ (w0 : World) (I' : Mem) (A : Heap) (w : World), Ext I I' → Cls w0 I' (E ++ A) w → ∃ fn tmps assign body, (Instr.yield l #[x]).run P w = .ok (.round l fn tmps assign body) w ∧
    RoundIn (FR none) 2 P l fn tmps assign body w fun e w' => ∃ t, p t ∧ e = .returned (.bool (b t)) ∧ Cls w0 I' (E' t ++ A) w'
theorem wpOp_yield {σ : Type} {l : Nat} {I I' : Mem} {x : Value} {E A : Heap} {p : σ → Prop} {b : σ → Bool} {E' : σ → Heap} {i d : Nat} {o : Oper} {rest : List Nat} {cl : Call} {fo : Operand} (hi : ops[i]? = some o) (hg : o.guard = none) (hd : o.dst = some d) (hN : Nat.blt d N = true) (ho : o.op = .call cl) (hcal : cl.callee = .value fo) (hf : ev S fo = some (.func (.yield l) #[] #[])) (hargs : ∀ ρ, Val S ρ → cl.args.map ρ = #[x])
    (hY : RoundTurn P l I x E p b E') (he : Ext I I') (hH : H.Perm (E ++ A)) (h : ∀ t, p t → ∀ a w, Agree N ((d, .bool (b t)) :: S) a → Cls w0 I' (E' t ++ A) w → wpOpsIn (FR none) 3 P ops Q rest (wd D a) w) :
    ∀ a w, Agree N S a → Cls w0 I' H w → wpOpsIn (FR none) 3 P ops Q (i :: rest) (wd D a) w := fun a w ha hc => by
  have hc := hc.perm hH
  obtain ⟨fn, tmps, assign, body, hy, hR⟩ := hY w0 I' A w he hc
  unfold wpOpsIn
  rw [hi]
  simp only [Region.wanted, hg, if_true]
  refine ⟨fun _ _ => trivial, ?_⟩
  rw [Oper.semAt_eq _ _ _ (fun c hx => by rw [ho] at hx; cases hx), wd_eval]
  have e : (execOp a.eval o).run P w = .ok (.round l fn tmps assign body) w := by
    simp only [execOp, ho, resolve, hcal, hargs _ ha.val]
    rw [ha.val _ _ hf]
    exact hy
  rw [e, Oper.uponIn_round]
  refine ⟨FR_dep, hR.mono ?_⟩
  rintro en w' ⟨t, hp, rfl, hc'⟩
  show wpOpsIn _ _ _ _ _ _ _ _
  rw [wd_put, hd]
  exact h t hp _ _ (ha.put (by simpa [Nat.blt_eq] using hN) _) hc'
end
end Go.HW
