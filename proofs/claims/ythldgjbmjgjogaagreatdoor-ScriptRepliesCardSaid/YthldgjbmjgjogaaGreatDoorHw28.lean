import Derived.Test.YthldgjbmjgjogaaGreatDoorHw22
import Derived.OrdersIn
import Derived.RangeFuncIn
import Derived.RangeFuncRecord
import Derived.RangeFuncLeaves
import Derived.Maps.RangeRun
import Derived.Lib.OthersKept
import Derived.Laws.RangeString
section
namespace Go.HW
open Go Go.RowKit
set_option linter.unusedVariables false
set_option linter.unusedSimpArgs false

/-! ### code in the frame of a round, or with a mark among the deferred calls -/
/-- The wide fence; in a loop's round, or not. -/
abbrev FR (r : Option Nat) : Fence := { Fence.wide with round := r }
theorem callsFR {r : Option Nat} {n : Nat} {P : Program} {f : FuncId} {args : Array Value} {w : World} {R : Ending → World → Prop} (h : Calls P f args w R) : CallsIn (FR r) n P f args w R := callsIn_wide.2 h
theorem FR_dep {r : Option Nat} {n : Nat} : (FR r).depth.isSome = true → 1 ≤ n := fun h => by cases h
def wd (D : List Deferred) (a : Act) : Act := { a with defers := D }
theorem wd_put (D : List Deferred) (a : Act) (d : Option Nat) (v : Value) : (wd D a).put d v = wd D (a.put d v) := by cases d <;> rfl
theorem wd_eval (D : List Deferred) (a : Act) : (wd D a).eval = a.eval := funext fun x => by cases x <;> rfl
theorem wd_nil {N : Nat} {S : Slots} {a : Act} (h : Agree N S a) : wd [] a = a := by
  obtain ⟨h1, _⟩ := h
  cases a; simp only at h1; subst h1; rfl
def noDefer (ops : Array Oper) : Bool := ops.all fun o => match o.op with
  | .defer _ => false
  | _ => true
theorem noDefer_at {ops : Array Oper} (h : noDefer ops = true) {i : Nat} {o : Oper} (hi : ops[i]? = some o) : ∀ c, o.op ≠ .defer c := fun c e => by
  unfold noDefer at h
  rw [Array.all_eq_true] at h
  obtain ⟨hlt, hk⟩ := Array.getElem?_eq_some_iff.1 hi
  have := h i hlt
  rw [hk, e] at this
  cases this

section
variable {P : Program} {ops : Array Oper} {w0 : World} {I : Mem} {lab : Lab} {ids : Nat → Option Nat} {rd : Option Nat} {n : Nat} {D : List Deferred}
theorem wpOpIn_of_stepD (hnd : noDefer ops = true) {i : Nat} {K : Act → Heap → Prop} {K' : Act → World → Prop} {Q : Exit → Act → World → Prop} {a : Act} {H : Heap} {w : World} (hc : Cls w0 I H w)
    (hK : ∀ a H w, Cls w0 I H w → K a H → K' (wd D a) w) (h : stepD P ops w0 I lab ids i K a H) : wpOpIn (FR rd) n P ops Q i K' (wd D a) w := by
  have h := h ⟨w, hc⟩
  unfold wpOpIn
  split
  · rename_i ho; rw [ho] at h; exact hK _ _ _ hc h
  · rename_i o ho
    rw [ho] at h
    obtain ⟨e, hd, ha⟩ := h
    have hsem : (o.semAt (FR rd).round (wd D a).eval) = execOp a.eval o := by rw [Oper.semAt_eq _ _ _ (noDefer_at hnd ho), wd_eval]
    rcases hd with ⟨hw, hd⟩ | ⟨hw, rfl⟩
    · rw [if_pos (show Region.wanted o (yielded ops (wd D a).tmps) = true from hw)]
      refine ⟨fun _ _ => trivial, ?_⟩
      rw [hsem]
      cases e with
      | val v =>
        have hq : QuietRun P o a w v := by
          rcases hd with ⟨_, hd⟩ | ⟨_, hd⟩ | ⟨_, x, b, ob, _, _, hm, hd⟩
          · exact .inl (hd w hc.imm)
          · exact hd w hc
          · exact .inl (hd w (hc.own _ _ hm))
        rcases hq with hq | ⟨g, args, hq, hcalls⟩
        · rw [hq]; show K' ((wd D a).put o.dst v) w; rw [wd_put]; exact hK _ _ _ hc ha
        · rw [hq, Oper.uponIn_enter]
          exact ⟨FR_dep, (callsFR hcalls).mono fun e w' ⟨he, hb⟩ => by subst he; show K' ((wd D a).put o.dst v) w'; rw [wd_put]; exact hK _ _ _ (hc.below hb) ha⟩
      | new ob mk => rw [hd.2 w]; show K' ((wd D a).put o.dst _) _; rw [wd_put]; exact hK _ _ _ (hc.alloc ob) (ha _ hc.size)
      | put H' =>
        obtain ⟨w', hr, hc'⟩ := hd.2.1 w hc
        rw [hr]; show K' ((wd D a).put o.dst _) _; rw [wd_put]; exact hK _ _ _ hc' ha
      | act X v H' =>
        rcases hd.2 w hc with ⟨x, w', hr, hc'⟩ | ⟨x, w', hr, hv, hc'⟩ | ⟨g, args, w1, hr, hcalls⟩
        · rw [hr]; show K' ((wd D a).put o.dst _) _; rw [wd_put]; exact hK _ _ _ hc' (ha x)
        · rw [hr]
          have h1 := ha x
          rw [hv] at h1
          show K' ((wd D a).put o.dst _) _; rw [wd_put]
          exact hK _ _ _ hc' h1
        · rw [hr, Oper.uponIn_enter]
          exact ⟨FR_dep, (callsFR hcalls).mono fun e w' ⟨x, he, hc'⟩ => by subst he; show K' ((wd D a).put o.dst _) w'; rw [wd_put]; exact hK _ _ _ hc' (ha x)⟩
    · rw [if_neg (show ¬ Region.wanted o (yielded ops (wd D a).tmps) = true by show ¬ Region.wanted o (yielded ops a.tmps) = true; rw [hw]; exact Bool.false_ne_true)]
      refine ⟨fun _ _ => trivial, ?_⟩
      rw [wd_put]; exact hK _ _ _ hc ha
theorem wpOpsIn_of_listD (hnd : noDefer ops = true) {Q : Act → Heap → Prop} {Q' : Exit → Act → World → Prop} (hQ : ∀ a H w, Cls w0 I H w → Q a H → Q' .normal (wd D a) w) :
    ∀ (l : List Nat) (a : Act) (H : Heap) (w : World), Cls w0 I H w → listD P ops w0 I lab ids Q l a H → wpOpsIn (FR rd) n P ops Q' l (wd D a) w
  | [], _, _, _, hc, h => hQ _ _ _ hc h
  | i :: l, _, _, _, hc, h => by
    rw [wpOpsIn_cons]
    exact wpOpIn_of_stepD hnd hc (fun a' H' w' hc' h' => wpOpsIn_of_listD hnd hQ l a' H' w' hc' h') h
theorem wpAnyIn_of_anyD (hnd : noDefer ops = true) {Q : Act → Heap → Prop} {Q' : Exit → Act → World → Prop} (hQ : ∀ a H w, Cls w0 I H w → Q a H → Q' .normal (wd D a) w) :
    ∀ (k : Nat) (listed : Array Bool) (a : Act) (H : Heap) (w : World), Cls w0 I H w → anyD P ops w0 I lab ids Q k listed a H → wpAnyIn (FR rd) n P .any ops Q' k listed (wd D a) w
  | 0, _, _, _, _, hc, h => ⟨(h ⟨_, hc⟩).1, hQ _ _ _ hc (h ⟨_, hc⟩).2⟩
  | k + 1, _, _, _, _, hc, h => ⟨fun h0 => hQ _ _ _ hc (h.1 h0), fun i hi => wpOpIn_of_stepD hnd hc (fun a' H' w' hc' h' => wpAnyIn_of_anyD hnd hQ k _ a' H' w' hc' h') (h.2 i hi)⟩
end

/-- A code, from slots and a class of worlds; 'rd': the loop whose round it stands in; 'D': what is deferred. -/
def CI (rd : Option Nat) (P : Program) (D : List Deferred) (N : Nat) (w0 : World) (I : Mem) (c : Code) (Q : Exit → Act → World → Prop) (S : Slots) (H : Heap) : Prop :=
  ∀ a w, Agree N S a → Cls w0 I H w → c.wpIn (FR rd) 3 P Q (wd D a) w
section
variable {rd : Option Nat} {P : Program} {D : List Deferred} {N : Nat} {w0 : World} {I : Mem} {Q : Exit → Act → World → Prop} {S : Slots} {H : Heap} {ops : Array Oper} {c x y : Code}
theorem CI.seq (h : CI rd P D N w0 I x (Exit.then (y.wpIn (FR rd) 3 P Q) Q) S H) : CI rd P D N w0 I (.seq x y) Q S H := fun a w ha hc => wpIn_seq (h a w ha hc)
theorem CI.block {id : Nat} (h : CI rd P D N w0 I c (Exit.inBlock id Q) S H) : CI rd P D N w0 I (.block id c) Q S H := fun a w ha hc => wpIn_block (h a w ha hc)
theorem CI.cond_true {z : Operand} {p : Bool} (hc : ev S z = some (.bool p)) (hp : p = true) (h : CI rd P D N w0 I x Q S H) : CI rd P D N w0 I (.cond z x y) Q S H := fun a w ha hcl => wpIn_cond_true (by rw [wd_eval, ha.val _ _ hc, hp]) (h a w ha hcl)
theorem CI.cond_false {z : Operand} {p : Bool} (hc : ev S z = some (.bool p)) (hp : p = false) (h : CI rd P D N w0 I y Q S H) : CI rd P D N w0 I (.cond z x y) Q S H := fun a w ha hcl => wpIn_cond_false (by rw [wd_eval, ha.val _ _ hc, hp]) (h a w ha hcl)
theorem CI.skip (h : ∀ a w, Agree N S a → Cls w0 I H w → Q .normal (wd D a) w) : CI rd P D N w0 I .skip Q S H := fun a w ha hc => wpIn_skip (h a w ha hc)
theorem CI.ret (h : ∀ a w, Agree N S a → Cls w0 I H w → Q .ret (wd D a) w) : CI rd P D N w0 I .ret Q S H := fun a w ha hc => wpIn_ret (h a w ha hc)
theorem CI.perm {H' : Heap} (hp : H.Perm H') (h : CI rd P D N w0 I c Q S H') : CI rd P D N w0 I c Q S H := fun a w ha hc => h a w ha (hc.perm hp)
theorem CI.weak {S' : Slots} (h : CI rd P D N w0 I c Q S' H) (hs : Sub S' S) : CI rd P D N w0 I c Q S H := fun a w ha hc => h a w (ha.sub hs) hc
theorem CI.fewer {H' : Heap} (hs : H'.Sublist H) (h : CI rd P D N w0 I c Q S H') : CI rd P D N w0 I c Q S H := fun a w ha hc => h a w ha (hc.fewer hs)
/-- .. what a region's end asks: -/
abbrev NQ (D : List Deferred) (Q : Exit → Act → World → Prop) : Act → World → Prop := fun a w => Q .normal (wd D a) w
theorem CI.rg {id : Nat} (l : List Nat) (ll : List (Kd × Option Nat)) (hc : c = .region id (opsOf c) false) (hl : List.range (opsOf c).size = l) (hnd : noDefer (opsOf c) = true) (h : DK P N w0 I (NQ D Q) (opsOf c) (labOf ll) (fun _ => none) l S H) : CI rd P D N w0 I c Q S H := fun a w ha hcl => by
  rw [hc]
  refine wpIn_region ?_
  rw [hl]
  exact wpOpsIn_of_listD hnd (fun a' H' w' hc' h' => h' w' hc') _ _ _ _ hcl (h a ha)
theorem CI.rgD {id : Nat} (l m : List Nat) (ll : List (Kd × Option Nat)) (hc : c = .region id (opsOf c) true) (hm : P.follows .mixedOrders = true) (hnd : noDefer (opsOf c) = true) (hB : okP (opsOf c) (labOf ll) l m = true)
    (h : ∀ w1, Later w0 w1 → (∀ z y b, idsOf H z = some b → idsOf H y = some b → z = y) → (∀ z b, idsOf H z = some b → b < w1.heap.size) → DK P N w1 I (NQ D Q) (opsOf c) (labOf ll) (idsOf H) l S H) : CI rd P D N w0 I c Q S H := fun a w ha hcl => by
  rw [hc]
  have hB := okD_of_okP hB
  simp only [Bool.and_eq_true] at hB
  obtain ⟨⟨hs, hl⟩, hok⟩ := hB
  have hl' : l.length = (opsOf c).size := Nat.eq_of_beq_eq_true hl
  refine wpIn_region_any hm ?_
  rw [← hl']
  have hc' : Cls w I H { w with drawn := w.drawn + 1 } := ⟨rfl, rfl, rfl, Nat.le_refl _, hcl.imm, hcl.own, hcl.disj, hcl.nodup⟩
  have hL := h w ⟨hcl.os, hcl.tape, hcl.output, hcl.size⟩ (ids_inj hcl.nodup) (ids_lt hcl) a ha
  exact wpAnyIn_of_anyD hnd (fun a' H' w' hc' h' => h' w' hc') _ _ _ _ _ hc' (anyD_of_list Q_mono ⟨w, hcl.imm⟩ hs l _ a H (fun j oj _ hl => by rw [getD_replicate_false] at hl; cases hl) (by rw [hl']; exact hok) hL)
/-- the end of a region, and on -/
theorem DK.nil {lab : Lab} {ids : Nat → Option Nat} {Kc : Act → World → Prop} {w1 : World} (h : ∀ a w, Agree N S a → Cls w1 I H w → Kc a w) : DK P N w1 I Kc ops lab ids [] S H := fun a ha w hc => h a w ha hc
theorem DK.next {lab : Lab} {ids : Nat → Option Nat} {w1 : World} {Q2 : Exit → Act → World → Prop} (hl : Later w0 w1) (hQ : Q .normal = y.wpIn (FR rd) 3 P Q2) (h : CI rd P D N w0 I y Q2 S H) : DK P N w1 I (NQ D Q) ops lab ids [] S H := fun a ha w hc => by
  show Q .normal (wd D a) w
  rw [hQ]; exact h a w ha (hc.later hl)
theorem DK.next0 {lab : Lab} {ids : Nat → Option Nat} {Q2 : Exit → Act → World → Prop} (hQ : Q .normal = y.wpIn (FR rd) 3 P Q2) (h : CI rd P D N w0 I y Q2 S H) : DK P N w0 I (NQ D Q) ops lab ids [] S H := DK.next ⟨rfl, rfl, rfl, Nat.le_refl _⟩ hQ h
theorem CI.skipN {Q2 : Exit → Act → World → Prop} (hQ : Q .normal = y.wpIn (FR rd) 3 P Q2) (h : CI rd P D N w0 I y Q2 S H) : CI rd P D N w0 I .skip Q S H := fun a w ha hc => wpIn_skip (by rw [hQ]; exact h a w ha hc)

theorem wpOpsIn_pre {lab : Lab} {ids : Nat → Option Nat} (hnd : noDefer ops = true) (rest : List Nat) : ∀ (pre : List Nat) (a : Act) (H : Heap) (w : World), Cls w0 I H w → listD P ops w0 I lab ids (fun a H => ∀ w, Cls w0 I H w → wpOpsIn (FR rd) 3 P ops Q rest (wd D a) w) pre a H → wpOpsIn (FR rd) 3 P ops Q (pre ++ rest) (wd D a) w
  | [], _, _, _, hc, h => h _ hc
  | i :: l, _, _, _, hc, h => by
    rw [List.cons_append, wpOpsIn_cons]
    exact wpOpIn_of_stepD hnd hc (fun a' H' w' hc' h' => wpOpsIn_pre hnd rest l a' H' w' hc' h') h
/-- a region with an operation amid it that is told apart -/
theorem CI.rgY {id : Nat} (pre rest : List Nat) (ll : List (Kd × Option Nat)) (hc : c = .region id (opsOf c) false) (hl : List.range (opsOf c).size = pre ++ rest) (hnd : noDefer (opsOf c) = true) (h : DK P N w0 I (fun a w => wpOpsIn (FR rd) 3 P (opsOf c) Q rest (wd D a) w) (opsOf c) (labOf ll) (fun _ => none) pre S H) : CI rd P D N w0 I c Q S H := fun a w ha hcl => by
  rw [hc]
  refine wpIn_region ?_
  rw [hl]
  exact wpOpsIn_pre hnd rest _ _ _ _ hcl (h a ha)
theorem wpOps_of_DK {lab : Lab} {ids : Nat → Option Nat} {l : List Nat} (hnd : noDefer ops = true) (h : DK P N w0 I (NQ D Q) ops lab ids l S H) : ∀ a w, Agree N S a → Cls w0 I H w → wpOpsIn (FR rd) 3 P ops Q l (wd D a) w := fun a w ha hc =>
  wpOpsIn_of_listD hnd (fun a' H' w' hc' h' => h' w' hc') _ _ _ _ hc (h a ha)

/-! #### a call of yield -/
end
end Go.HW
end

section
namespace Go.HW
open Go Go.RowKit
set_option linter.unusedVariables false
set_option linter.unusedSimpArgs false

/-! ### going over a map that stays, in whatever order -/
section
variable {Kc : Act → World → Prop} {P : Program} {o : Oper} {S : Slots} {w0 : World} {I : Mem} {H : Heap} {N : Nat} {ops : Array Oper} {lab : Lab} {ids : Nat → Option Nat} {ls : List Nat} {i d : Nat} {l : List (Value × Value)}
end

/-! ### in and out of functions' walks -/
section
variable {P : Program} {f : FuncId} {R : Ending → World → Prop} {N : Nat} {w0 : World} {I : Mem} {k : List Item} {S : Slots} {H : Heap} {c : Code}
theorem T.codeIn {n : Nat} {a : Act} {w : World} (h : c.wpIn (FR none) n P (fun e a' w' => e = .normal ∧ T P f R k a' w') a w) : T P f R (.code c :: k) a w := fun b cs hb hk => by
  let b' : Frame := { b with roundOf := none }
  have hat : ∀ (a : Act) (k : List Item), b'.atR a k = b.at a k := fun a k => rfl
  obtain ⟨e, a', w', ⟨rfl, hT⟩, harr⟩ := h b' k cs rfl trivial (fun d hd => by cases hd)
  obtain ⟨e2, w2, fr, hR, hc, hf, hl⟩ := hT b cs hb hk
  have harr' : StepsIn (Machine.fenced P (FR none)) P (lone (b'.atR a (.code c :: k)) cs w) (lone (b'.atR a' k) cs w') := harr
  exact ⟨e2, w2, fr, hR, hc.of_steps harr'.steps, hf, hl⟩
theorem TT.ofCI (h : CI none P [] N w0 I c (fun e a' w' => e = .normal ∧ T P f R k a' w') S H) : TT P f R N w0 I (.code c :: k) S H := fun a w ha hc => by
  have := h a w ha hc
  rw [wd_nil ha] at this
  exact T.codeIn this
theorem calls_of_TTG {fn : Func} {b : Code} {args : Array Value} {w : World} (hc : Cls w0 I H w) (hf : P.funcs[f]? = some fn) (hb : fn.body = some b) (hN : fn.ntmps = N) (hsz : Nat.ble args.size N = true) (hS : ∀ p ∈ S, args[p.1]? = some p.2)
    (h : TT P f R N w0 I [.code b] S H) : Calls P f args w R := by
  refine calls_of_T hf hb (h _ _ ⟨rfl, ?_, fun i v hi => ?_⟩ hc)
  · have := Nat.le_of_ble_eq_true hsz
    simp; omega
  · have := hS (i, v) (get_mem hi)
    simp only at this ⊢
    rw [Array.getElem?_append_left (lt_of_get this)]; exact this
theorem retR {fn : Func} {rs : List ResultVar} {vs : List Value} {v : Value} (hf : P.funcs[f]? = some fn) (hrs : fn.results = rs.toArray) (hl : rs.length = vs.length)
    (hv : (if h : vs.toArray.size = 1 then vs.toArray[0] else .tuple vs.toArray) = v) (hall : ∀ (i : Nat) (r : ResultVar) (u : Value), rs[i]? = some r → vs[i]? = some u → ResV P N w0 I S H r u) (hR : ∀ w, Cls w0 I H w → R (.returned v) w) :
    TT P f R N w0 I (.code .ret :: k) S H := fun a w ha hc => T.ret (fin_of v hf hrs hl hv hall ha hc (hR w hc))
theorem endR {fn : Func} {rs : List ResultVar} {vs : List Value} {v : Value} (hf : P.funcs[f]? = some fn) (hrs : fn.results = rs.toArray) (hl : rs.length = vs.length)
    (hv : (if h : vs.toArray.size = 1 then vs.toArray[0] else .tuple vs.toArray) = v) (hall : ∀ (i : Nat) (r : ResultVar) (u : Value), rs[i]? = some r → vs[i]? = some u → ResV P N w0 I S H r u) (hR : ∀ w, Cls w0 I H w → R (.returned v) w) :
    TT P f R N w0 I [] S H := fun a w ha hc => T.nil (fin_of v hf hrs hl hv hall ha hc (hR w hc))
theorem TT.perm {H' : Heap} (hs : H.Perm H') (h : TT P f R N w0 I k S H') : TT P f R N w0 I k S H := fun a w ha hc => h a w ha (hc.perm hs)
end

/-! ### a part of what is owned, as what stays -/
theorem frameI {X : Type} {P : Program} {u : X → Value} {E A : Heap} {E' : X → Heap} {f : FuncId} {args : Array Value} {w0 w : World} {I : Mem} (h : ∀ (I' : Mem), Ext I I' → (∀ b o, (some b, o) ∈ A → I' b = some o) → Cls w0 I' E w → Calls P f args w fun e w' => ∃ x, e = .returned (u x) ∧ Cls w0 I' (E' x) w') (hc : Cls w0 I (E ++ A) w) :
    Calls P f args w fun e w' => ∃ x, e = .returned (u x) ∧ Cls w0 I (E' x ++ A) w' := by
  have hnA : (A.filterMap Prod.fst).Nodup := hc.nodup.sublist ((List.sublist_append_right E A).filterMap _)
  have hA : ∀ b o, (some b, o) ∈ A → addJ I A b = some o := fun b o hm => by
    unfold addJ
    rw [hc.disj b o (List.mem_append_right _ hm)]
    exact inJ_of_mem hnA hm
  refine (h (addJ I A) (Ext.addJ _ _) hA hc.settle).mono fun e w' ⟨x, he, hc'⟩ => ⟨x, he, ?_⟩
  refine ⟨hc'.os, hc'.tape, hc'.output, hc'.size, fun b o e => hc'.imm b o (Ext.addJ _ _ b o e), fun b o hm => ?_, fun b o hm => ?_, ?_⟩
  · rcases List.mem_append.1 hm with hm | hm
    · exact hc'.own b o hm
    · exact hc'.imm b o (hA b o hm)
  · rcases List.mem_append.1 hm with hm | hm
    · have := hc'.disj b o hm
      cases hI : I b with
      | none => rfl
      | some z => rw [Ext.addJ I A b z hI] at this; cases this
    · exact hc.disj b o (List.mem_append_right _ hm)
  · rw [List.filterMap_append, List.nodup_append]
    refine ⟨hc'.nodup, hnA, fun a ha b hb e => ?_⟩
    subst e
    obtain ⟨z, hz⟩ := mem_ids.1 ha
    obtain ⟨y, hy⟩ := mem_ids.1 hb
    have h1 := hc'.disj a z hz
    rw [hA a y hy] at h1; cases h1
end Go.HW
end

section
namespace Go.HW
open Go Go.RowKit
set_option linter.unusedVariables false
set_option linter.unusedSimpArgs false

/-! ### rounds, and the statement that ranges over a function -/
theorem roundFR {r : Option Nat} {n m : Nat} {P : Program} {l : Nat} {f : FuncId} {tmps : Array Value} {assign body : Code} {w : World} {R : Ending → World → Prop} (h : RoundIn (FR r) n P l f tmps assign body w R) : RoundIn (FR r) m P l f tmps assign body w R :=
  ⟨h.1, fun c cs _ => h.2 c cs (fun d hd => by cases hd)⟩
section
variable {P : Program} {N : Nat} {w0 w : World} {I : Mem} {Q : Exit → Act → World → Prop} {S : Slots} {H : Heap} {l j : Nat} {rec : Loop} {R : Ending → World → Prop} {body : Code}
theorem Cls.putObj {b : Nat} {o o' : Obj} (hc : Cls w0 I H w) (hj : H[j]? = some (some b, o)) : Cls w0 I (H.set j (some b, o')) (w.putObj b o') := by
  have hb := hc.own b o (List.mem_of_getElem? hj)
  exact hc.setObj hj rfl rfl rfl World.putObj_size (World.putObj_heap_same (lt_of_get hb)) (fun c hne => World.putObj_heap_other hne)
theorem begin_body (hj : H[j]? = some (some l, .loop rec)) (hst : rec.state = .ready) (hb : CI (some l) P [] N w0 I body Q S (H.set j (some l, .loop { rec with state := .busy }))) :
    ∀ a w, Agree N S a → Cls w0 I H w → ∃ w₂, (Instr.beginRound l).run P w = .ok () w₂ ∧ body.wpIn (FR (some l)) 3 P Q (wd [] a) w₂ := fun a w ha hc =>
  ⟨_, run_beginRound (hc.own l _ (List.mem_of_getElem? hj)) hst, hb a _ ha (hc.putObj hj)⟩
theorem end_round (hj : H[j]? = some (some l, .loop rec)) (hR : ∀ w', Cls w0 I (H.set j (some l, .loop { rec with state := .ready, pending := none })) w' → R (.returned (.bool true)) w') : ∀ a w, Cls w0 I H w → roundPost P l R .normal a w := fun a w hc =>
  ⟨_, _, run_endRound none (hc.own l _ (List.mem_of_getElem? hj)), hR _ (hc.putObj hj)⟩
theorem end_ret (hj : H[j]? = some (some l, .loop rec)) (hR : ∀ w', Cls w0 I (H.set j (some l, .loop { rec with state := .done, pending := some .ret })) w' → R (.returned (.bool false)) w') : ∀ a w, Cls w0 I H w → roundPost P l R .ret a w := fun a w hc =>
  ⟨_, _, run_endRound (some .ret) (hc.own l _ (List.mem_of_getElem? hj)), hR _ (hc.putObj hj)⟩
end

abbrev markD (D : Nat) : List Deferred := [{ target := .collected D, args := #[] }]
section
variable {P : Program} {N : Nat} {w0 : World} {I : Mem} {Q : Exit → Act → World → Prop} {S : Slots} {H : Heap}
/-- for .. := range g: 'jump x' is what a round has left to do; 'H' x' what is owned behind it. -/
theorem CI.rangeFunc {X : Type} {g : Operand} {ps : Array Tmp} {assign body : Code} {gf : Nat} {lb : Array Value} {jump : X → Option Code} {H' : X → Heap} (hg : ev S g = some (.func (.func gf) #[] lb)) (eg : ∀ args w, (callFunc gf args).run P w = .ok (.enter gf args) w)
    (hc : ∀ (l D : Nat) (rec : Loop), rec.state = .ready → rec.pending = none → rec.params = ps → rec.assign = assign → rec.body = body → Agree N S { tmps := rec.tmps, defers := [] } → ∀ W1, Cls w0 I ((some l, .loop rec) :: (some D, .deferred (some [])) :: H) W1 →
      Calls P gf (#[.func (.yield l) #[] #[]] ++ lb) W1 fun e w' => ∃ x : X, (∃ v, e = .returned v) ∧ ∃ rec' : Loop, rec'.state ≠ .busy ∧ rec'.pending = jump x ∧ Cls w0 I ((some l, .loop rec') :: (some D, .deferred (some [])) :: H' x) w')
    (h : ∀ (D : Nat) (x : X), match jump x with
      | none => ∀ a w, Agree N S a → Cls w0 I ((some D, .deferred (some [])) :: H' x) w → Q .normal (wd (markD D) a) w
      | some c => CI none P (markD D) N w0 I c Q S ((some D, .deferred (some [])) :: H' x)) :
    CI none P [] N w0 I (.rangeFunc g ps assign body) Q S H := fun a w ha hcl => by
  rw [wd_nil ha]
  refine wpIn_rangeFunc fun fn hfn => ?_
  obtain ⟨rec, hrec⟩ : ∃ rec : Loop, rec = { state := .ready, pending := none, fn, tmps := a.tmps, params := ps, assign, body, defers := w.heap.size } := ⟨_, rfl⟩
  obtain ⟨W1, hW1⟩ : ∃ W1, (w.alloc (.deferred (some []))).alloc (.loop rec) = W1 := ⟨_, rfl⟩
  have hC1 : Cls w0 I ((some (w.heap.size + 1), .loop rec) :: (some w.heap.size, .deferred (some [])) :: H) W1 := by
    rw [← hW1]
    have := (hcl.alloc (.deferred (some []))).alloc (.loop rec)
    rwa [World.size_alloc] at this
  refine ⟨w.heap.size + 1, markD w.heap.size, W1, { target := .fn (.func gf) lb, args := #[.func (.yield (w.heap.size + 1)) #[] #[]] }, W1, gf, #[.func (.yield (w.heap.size + 1)) #[] #[]] ++ lb, W1, ?_, ?_, fun _ _ => trivial, ?_, fun _ => by decide, ?_⟩
  · rw [← hW1, hrec]; exact run_enterLoop_outer _ _ _ _ _
  · simp only [resolve, ha.val _ _ hg]
    simp [go_sem]
  · simp [invoke, go_sem, eg]
  · have hag : Agree N S { tmps := rec.tmps, defers := [] } := by rw [hrec]; exact ⟨rfl, ha.2.1, ha.2.2⟩
    refine (callsFR (hc (w.heap.size + 1) w.heap.size rec (by rw [hrec]) (by rw [hrec]) (by rw [hrec]) (by rw [hrec]) (by rw [hrec]) hag W1 hC1)).mono ?_
    rintro e w2 ⟨x, ⟨v, rfl⟩, rec', hb, hp, hc2⟩
    have hl := hc2.own _ _ List.mem_cons_self
    have h4 : Cls w0 I ((some w.heap.size, .deferred (some [])) :: H' x) (w2.putObj (w.heap.size + 1) (.loop { rec' with state := .exhausted })) := (hc2.putObj (j := 0) rfl).tail
    have hD := h w.heap.size x
    have hwd : ({ a with defers := markD w.heap.size ++ a.defers } : Act) = wd (markD w.heap.size) a := by rw [ha.1]; rfl
    refine ⟨jump x, _, by rw [← hp]; exact run_endLoop hl hb, ?_⟩
    rw [hwd]
    cases hj : jump x with
    | none => rw [hj] at hD; exact hD a _ ha h4
    | some c => rw [hj] at hD; exact hD a _ ha h4
theorem calls_of_CIM {f : FuncId} {fn : Func} {c : Code} {args : Array Value} {w : World} {R : Ending → World → Prop} (hf : P.funcs[f]? = some fn) (hb : fn.body = some c) (hN : fn.ntmps = N) (hsz : Nat.ble args.size N = true) (hS : ∀ p ∈ S, args[p.1]? = some p.2)
    (hc : Cls w0 I H w) (h : CI none P [] N w0 I c (bodyPostM (FR none) 3 P fn R) S H) : Calls P f args w R := by
  have hag : Agree N S { tmps := args ++ Array.replicate (fn.ntmps - args.size) undef, defers := [] } := by
    refine ⟨rfl, ?_, fun i v hi => ?_⟩
    · have := Nat.le_of_ble_eq_true hsz
      simp; omega
    · have := hS (i, v) (get_mem hi)
      simp only at this ⊢
      rw [Array.getElem?_append_left (lt_of_get this)]; exact this
  have h1 := h _ w hag hc
  rw [wd_nil hag] at h1
  exact callsIn_wide.1 (callsIn_of_wp_marks (F := FR none) hf hb trivial h1 rfl)
/-- the return of a function that holds such a statement -/
theorem CI.retM {f : FuncId} {fn : Func} {R : Ending → World → Prop} {rs : List ResultVar} {vs : List Value} {v : Value} {D : Nat} {G : Heap} (hQ : Q .ret = bodyPostM (FR none) 3 P fn R .ret) (hf : P.funcs[f]? = some fn) (hrs : fn.results = rs.toArray) (hl : rs.length = vs.length)
    (hv : (if h : vs.toArray.size = 1 then vs.toArray[0] else .tuple vs.toArray) = v) (hall : ∀ (i : Nat) (r : ResultVar) (u : Value), rs[i]? = some r → vs[i]? = some u → ResV P N w0 I S G r u) (hp : H.Perm ((some D, .deferred (some [])) :: G)) (hR : ∀ w, Cls w0 I G w → R (.returned v) w) :
    CI none P (markD D) N w0 I .ret Q S H := fun a w ha hc => by
  refine wpIn_ret ?_
  rw [hQ]
  have hc1 := hc.perm hp
  have hKD := hc1.own _ _ List.mem_cons_self
  have hc2 : Cls w0 I G (w.putObj D (.deferred none)) := (hc1.putObj (j := 0) (o' := .deferred none) rfl).tail
  obtain ⟨_, fn', v', hf', hr', hR'⟩ := fin_of (P := P) (f := f) (N := N) (R := R) v hf hrs hl hv hall ha hc2 (hR _ hc2)
  rw [hf] at hf'; cases hf'
  show LeavesInM _ _ _ _ a.tmps _ (markD D) _ _
  exact ⟨by simp, .inl ⟨_, _, rfl, run_takeDeferred hKD, v', hr', hR'⟩⟩
end
end Go.HW
end

section
namespace Go.HW
open Go Go.RowKit
set_option linter.unusedVariables false
set_option linter.unusedSimpArgs false
section
variable {Kc : Act → World → Prop} {P : Program} {o : Oper} {S : Slots} {w0 : World} {I : Mem} {M : Mem} {H : Heap} {N : Nat} {ops : Array Oper} {lab : Lab} {ids : Nat → Option Nat} {l : List Nat} {i d : Nat}
end
end Go.HW
end

section
namespace Go.HW
open Go Go.RowKit
set_option linter.unusedVariables false
set_option linter.unusedSimpArgs false

/-! ### going over a text that is known -/
section
variable {P : Program} {o : Oper} {S : Slots} {w0 : World} {I : Mem} {H : Heap}
theorem f_rangeText {T : TypeId} {x : Operand} {s : ByteArray} (hu : P.underlying T = some .string) (ho : o.op = .range T x) (hx : ev S x = some (.string s)) :
    FAct P o w0 I S H Nat (fun b => ptr b 0) (fun b => (some b, .stringIter s 0) :: H) := fun ρ hρ w hc => .inl ⟨w.heap.size, w.alloc (.stringIter s 0), by
  simp only [execOp, ho, hρ _ _ hx]
  exact val_run (v := ptr w.heap.size 0) (run_range_string w T s hu), hc.alloc _⟩
theorem f_nextText {b j pos : Nat} {x : Operand} {s : ByteArray} {c : Nat} {wd : Nat} (hH : H[j]? = some (some b, .stringIter s pos)) (hp : pos < s.size) (hd : Utf8.decode s pos = (c, wd)) (ho : o.op = .next x true) (hx : ev S x = some (ptr b 0)) :
    FAct P o w0 I S H Unit (fun _ => .tuple #[.bool true, .int .i64 (pos : Int), .int .i32 (c : Int)]) (fun _ => H.set j (some b, .stringIter s (pos + wd))) := fun ρ hρ w hc => by
  have hb := hc.own b _ (List.mem_of_getElem? hH)
  refine .inl ⟨(), w.iterAt b s (pos + wd), ?_, ?_⟩
  · simp only [execOp, ho, hρ _ _ hx]
    have := Lib.run_next_any_at (P := P) w b s pos o.type hb hp
    rw [hd] at this
    exact val_run this
  · refine hc.setObj hH rfl rfl rfl ?_ ?_ ?_
    · simp [World.iterAt]
    · simp [World.iterAt, lt_of_get hb]
    · intro e he; simp [World.iterAt, Array.getElem?_setIfInBounds, Ne.symm he]
theorem f_nextTextEnd {b j pos : Nat} {x : Operand} {s : ByteArray} (hH : H[j]? = some (some b, .stringIter s pos)) (hp : ¬ pos < s.size) (ho : o.op = .next x true) (hx : ev S x = some (ptr b 0)) : FAct P o w0 I S H Unit (fun _ => .tuple #[.bool false]) (fun _ => H) := fun ρ hρ w hc => .inl ⟨(), w, by
  have hb := hc.own b _ (List.mem_of_getElem? hH)
  simp only [execOp, ho, hρ _ _ hx]
  exact val_run (Lib.run_next_end_at (P := P) w b s pos o.type hb hp), hc⟩
end

/-! ### a call that turns some of what is owned -/
/-- Whatever else there is: these blocks are handed in and come back turned. -/
def TurnM (P : Program) (M : Mem) (f : FuncId) (args : Array Value) (E : Heap) {X : Type} (u : X → Value) (E' : X → Heap) : Prop :=
  ∀ (I' : Mem), Ext M I' → ∀ (w0 w : World), Cls w0 I' E w → Calls P f args w fun e w' => ∃ x, e = .returned (u x) ∧ Cls w0 I' (E' x) w'
theorem range_pick : ∀ (H : Heap) (k : Nat) (G : Heap), k = G.length → (List.range' k H.length).filterMap (fun i => (G ++ H)[i]?) = H
  | [], _, _, _ => rfl
  | p :: H, k, G, h => by
    rw [List.length_cons, List.range'_succ, List.filterMap_cons]
    have e : (G ++ p :: H)[k]? = some p := by subst h; simp
    rw [e]
    have := range_pick H (k + 1) (G ++ [p]) (by simp [h])
    simp only [List.append_assoc, List.cons_append, List.nil_append] at this
    simp only [this]
theorem pick_perm {H : Heap} {is : List Nat} (h : is.isPerm (List.range H.length) = true) : (pick is H).Perm H := by
  have h1 := (List.isPerm_iff.1 h).filterMap (fun i => H[i]?)
  have h2 := range_pick H 0 [] rfl
  rw [← List.range_eq_range'] at h2
  simp only [List.nil_append] at h2
  rw [h2] at h1; exact h1
section
variable {Kc : Act → World → Prop} {P : Program} {N : Nat} {w0 w1 : World} {I M M0 : Mem} {A J H : Heap} {xh : Option Nat} {S : Slots} {ops : Array Oper} {lab : Lab} {ids : Nat → Option Nat} {l : List Nat} {i d : Nat} {o : Oper}
theorem turn_frame {X : Type} {u : X → Value} {E R : Heap} {E' : X → Heap} {f : FuncId} {args : Array Value} {w : World} (hM : Ext M I) (hT : TurnM P M f args E u E') (hc : Cls w0 I (E ++ R) w) : Calls P f args w fun e w' => ∃ x, e = .returned (u x) ∧ Cls w0 I (E' x ++ R) w' :=
  frameI (fun I' he _ hc' => hT I' (hM.trans he) w0 w hc') hc
theorem DL.turnM {X : Type} {u : X → Value} {E R : Heap} {E' : X → Heap} {cl : Call} {fo : Operand} {g : FuncId} {caps args all : Array Value} (hM : Ext M I) (is : List Nat) (hp : is.isPerm (List.range H.length) = true) (hpk : HW.pick is H = E ++ R)
    (hT : TurnM P M g all E u E') (he : args ++ caps = all)
    (hi : ops[i]? = some o) (hw : Wn ops S o true) (hd : o.dst = some d) (hN : Nat.blt d N = true) (hk : (lab i).1 = .actx) (ho : o.op = .call cl) (hcal : cl.callee = .value fo) (hf : ev S fo = some (.func (.func g) #[] caps)) (hargs : ∀ ρ, Val S ρ → cl.args.map ρ = args)
    (hbody : ∀ w, (callFunc g all).run P w = .ok (.enter g all) w)
    (h : ∀ x, DK P N w1 I Kc ops lab ids l ((d, u x) :: S) (E' x ++ R)) : DK P N w1 I Kc ops lab ids (i :: l) S H :=
  DL.actx (X := X) (u := u) (H' := fun x => E' x ++ R) hi hw hd hN hk (fun ρ hρ w hcl => .inr (.inr ⟨g, all, w, by
    subst he
    simp only [execOp, ho, resolve, hcal, hargs ρ hρ]
    rw [hρ _ _ hf]
    show (callFunc g (#[] ++ args ++ caps)).run P w = _
    simpa using hbody w, turn_frame hM hT (by rw [← hpk]; exact hcl.perm (pick_perm hp).symm)⟩)) h
/-- .. where what stays has grown in this region -/
theorem DL.turnMJ {X : Type} {u : X → Value} {E R : Heap} {E' : X → Heap} {cl : Call} {fo : Operand} {g : FuncId} {caps args all : Array Value} {wz : World} (hE : EnvX xh wz M0 M (addJ I J)) (hH : H = A ++ J) (is : List Nat) (hp : is.isPerm (List.range A.length) = true) (hpk : HW.pick is A = E ++ R)
    (hT : TurnM P M g all E u E') (he : args ++ caps = all)
    (hi : ops[i]? = some o) (hw : Wn ops S o true) (hd : o.dst = some d) (hN : Nat.blt d N = true) (hk : (lab i).1 = .actx) (ho : o.op = .call cl) (hcal : cl.callee = .value fo) (hf : ev S fo = some (.func (.func g) #[] caps)) (hargs : ∀ ρ, Val S ρ → cl.args.map ρ = args)
    (hbody : ∀ w, (callFunc g all).run P w = .ok (.enter g all) w)
    (h : ∀ x, DK P N w1 I Kc ops lab ids l ((d, u x) :: S) (E' x ++ (R ++ J))) : DK P N w1 I Kc ops lab ids (i :: l) S H :=
  DL.actx (X := X) (u := u) (H' := fun x => E' x ++ (R ++ J)) hi hw hd hN hk (fun ρ hρ w hcl => .inr (.inr ⟨g, all, w, by
    subst he
    simp only [execOp, ho, resolve, hcal, hargs ρ hρ]
    rw [hρ _ _ hf]
    show (callFunc g (#[] ++ args ++ caps)).run P w = _
    simpa using hbody w, by
    subst hH
    have h2 : Cls w1 I (E ++ (R ++ J)) w := by
      rw [← List.append_assoc, ← hpk]
      exact hcl.perm ((pick_perm hp).symm.append_right J)
    refine frameI (fun I' he' hA hc' => hT I' (fun b o e => ?_) w1 w hc') h2
    rcases addJ_cases (hE.mi b o e) with h3 | ⟨_, h3⟩
    · exact he' b o h3
    · exact hA b o (List.mem_append_right _ h3)⟩)) h
end
/-! ### boxes that stay: structs with arrays -/
section
variable {P : Program} {o : Oper} {S : Slots} {I : Mem}
/-- a part of a box, as a struct or an array -/
theorem i_loadBoxSub {t t' : TypeId} {x : Operand} {b off n : Nat} {c : Array Value} {vs : List Value} {z : Nat × Nat} (hb : I b = some (.cells c t' z)) (hl : vs.length = n) (hv : (c.toList.drop off).take n = vs) (ha : ∀ w, (isAgg t).run P w = .ok true w) (hs : ∀ w, (sizeOf t).run P w = .ok n w) (ho : o.op = .load t x) (hx : ev S x = some (ptr b off)) : FImm P o I S (.agg vs.toArray) := fun ρ hρ w hi => by
  simp only [execOp, ho, hρ _ _ hx]
  refine val_run ?_
  show ((isAgg t).bind _).run P w = _
  rw [run_of_bind (ha w)]
  show ((sizeOf t).bind _).run P w = _
  rw [run_of_bind (hs w)]
  refine (run_of_bind (run_loadCells (b := b) (off := off) (vs := vs) hl (fun j q hj => ?_))).trans rfl
  rw [cell_of (hi b _ hb)]
  have hjn : j < n := by
    rcases Nat.lt_or_ge j n with h | h
    · exact h
    · rw [List.getElem?_eq_none (by omega)] at hj; cases hj
  rw [← hv, List.getElem?_take_of_lt hjn, List.getElem?_drop, Array.getElem?_toList] at hj
  exact hj
theorem row_of_box {M : Mem} {k : IntKind} {b off n : Nat} {c : Array Value} {t : TypeId} {z : Nat × Nat} {xs : List Int} (hb : M b = some (.cells c t z)) (hl : xs.length = n) (hv : (c.toList.drop off).take n = encl k xs) : IntRow M k (.slice (some ⟨b, off, none⟩) n n) xs := by
  subst hl
  refine ⟨by simp [encl], some ⟨b, off, none⟩, xs.length, rfl, Nat.le_refl _, .inr ⟨b, off, c, t, z, rfl, hb, fun i q hq => ?_⟩⟩
  rw [← hv] at hq
  have hin : i < xs.length := by
    rcases Nat.lt_or_ge i xs.length with h | h
    · exact h
    · rw [List.getElem?_eq_none (by simp; omega)] at hq; cases hq
  rw [List.getElem?_take_of_lt hin, List.getElem?_drop, Array.getElem?_toList] at hq
  exact hq
theorem p_sliceBox {T : TypeId} {x : Operand} {v u : Value} (hr : ∀ w, (Instr.sliceAt T v none none none).run P w = .ok u w) (ho : o.op = .slice T x none none none) (hx : ev S x = some v) : FPure P o S u := fun ρ hρ w => by
  simp only [execOp, ho, hρ _ _ hx]
  exact val_run (hr w)
end
/-- 32 numbers, whatever list stands for them -/
def pad32 (k : List Int) : List Int := [k.getD 0 0, k.getD 1 0, k.getD 2 0, k.getD 3 0, k.getD 4 0, k.getD 5 0, k.getD 6 0, k.getD 7 0, k.getD 8 0, k.getD 9 0, k.getD 10 0, k.getD 11 0, k.getD 12 0, k.getD 13 0, k.getD 14 0, k.getD 15 0, k.getD 16 0, k.getD 17 0, k.getD 18 0, k.getD 19 0, k.getD 20 0, k.getD 21 0, k.getD 22 0, k.getD 23 0, k.getD 24 0, k.getD 25 0, k.getD 26 0, k.getD 27 0, k.getD 28 0, k.getD 29 0, k.getD 30 0, k.getD 31 0]
theorem pad32_len (k : List Int) : (pad32 k).length = 32 := rfl
end Go.HW
end

section
namespace Go.HW
open Go Go.RowKit
set_option linter.unusedVariables false
set_option linter.unusedSimpArgs false

/-! ### steps whose paths are read off the code -/
abbrev nS : Value := .slice none 0 0
abbrev z0 : List Int := []
abbrev zU : List UInt8 := []
abbrev kF : Kd × Option Nat := (.free, none)
abbrev kA : Kd × Option Nat := (.alloc, none)
abbrev kS : Kd × Option Nat := (.store, none)
section
variable {Kc : Act → World → Prop} {P : Program} {f : FuncId} {R : Ending → World → Prop} {N : Nat} {w0 : World} {I : Mem} {k : List Item} {S : Slots} {H : Heap} {p : List Nat} {B : Code}
theorem TT.sq (hc : sub p B = .seq (sub (p ++ [0]) B) (sub (p ++ [1]) B)) (h : TT P f R N w0 I (.code (sub (p ++ [0]) B) :: .code (sub (p ++ [1]) B) :: k) S H) : TT P f R N w0 I (.code (sub p B) :: k) S H := by
  rw [hc]; exact TT.seq h
theorem TT.ct {z : Operand} {b : Bool} (hc : sub p B = .cond z (sub (p ++ [0]) B) (sub (p ++ [1]) B)) (hv : ev S z = some (.bool b)) (hp : b = true) (h : TT P f R N w0 I (.code (sub (p ++ [0]) B) :: k) S H) : TT P f R N w0 I (.code (sub p B) :: k) S H := by
  rw [hc]; exact TT.cond_true hv hp h
theorem TT.cf {z : Operand} {b : Bool} (hc : sub p B = .cond z (sub (p ++ [0]) B) (sub (p ++ [1]) B)) (hv : ev S z = some (.bool b)) (hp : b = false) (h : TT P f R N w0 I (.code (sub (p ++ [1]) B) :: k) S H) : TT P f R N w0 I (.code (sub p B) :: k) S H := by
  rw [hc]; exact TT.cond_false hv hp h
theorem TT.bk {id : Nat} (hc : sub p B = .block id (sub (p ++ [0]) B)) (h : TT P f R N w0 I (.code (sub (p ++ [0]) B) :: .inBlock id :: k) S H) : TT P f R N w0 I (.code (sub p B) :: k) S H := by
  rw [hc]; exact TT.block h
theorem TT.lp (hc : sub p B = .loop (sub (p ++ [0]) B)) (h : TT P f R N w0 I (.code (sub (p ++ [0]) B) :: .inLoop (sub (p ++ [0]) B) :: k) S H) : TT P f R N w0 I (.code (sub p B) :: k) S H := by
  rw [hc]; exact TT.loop h
variable {ops : Array Oper} {lab : Lab} {ids : Nat → Option Nat} {l : List Nat} {i d : Nat} {o : Oper}
/-- an operation that is not asked -/
theorem DL.nt {j t : Nat} {want b : Bool} (hi : ops[i]? = some o) (hg : o.guard = some (j, want)) (hj : (ops[j]?).bind (·.dst) = some t) (ht : get S t = some (.bool b)) (hb : (b == want) = false) (hd : o.dst = some d) (hN : Nat.blt d N = true) (h : DK P N w0 I Kc ops lab ids l ((d, undef) :: S) H) : DK P N w0 I Kc ops lab ids (i :: l) S H :=
  DL.not hi (Wn.some hg hj ht hb) hd hN h
/-- a letter of a text that is known -/
theorem DL.chr {b j pos c wd : Nat} {x : Operand} {s : ByteArray} (hj : H[j]? = some (some b, .stringIter s pos)) (hi : ops[i]? = some o) (hg : o.guard = none) (hd : o.dst = some d) (hN : Nat.blt d N = true) (hk : (lab i).1 = .actx) (hp : pos < s.size) (hdc : Utf8.decode s pos = (c, wd)) (ho : o.op = .next x true) (hx : ev S x = some (ptr b 0))
    (h : DK P N w0 I Kc ops lab ids l ((d, .tuple #[.bool true, .int .i64 (pos : Int), .int .i32 (c : Int)]) :: S) (H.set j (some b, .stringIter s (pos + wd)))) : DK P N w0 I Kc ops lab ids (i :: l) S H :=
  DL.actx (X := Unit) (u := fun _ => .tuple #[.bool true, .int .i64 (pos : Int), .int .i32 (c : Int)]) (H' := fun _ => H.set j (some b, .stringIter s (pos + wd))) hi (Wn.none hg) hd hN hk (f_nextText hj hp hdc ho hx) fun _ => h
/-- its end -/
theorem DL.chrE {b j pos : Nat} {x : Operand} {s : ByteArray} (hj : H[j]? = some (some b, .stringIter s pos)) (hi : ops[i]? = some o) (hg : o.guard = none) (hd : o.dst = some d) (hN : Nat.blt d N = true) (hk : (lab i).1 = .actx) (hp : ¬ pos < s.size) (ho : o.op = .next x true) (hx : ev S x = some (ptr b 0))
    (h : DK P N w0 I Kc ops lab ids l ((d, .tuple #[.bool false]) :: S) H) : DK P N w0 I Kc ops lab ids (i :: l) S H :=
  DL.actx (X := Unit) (u := fun _ => .tuple #[.bool false]) (H' := fun _ => H) hi (Wn.none hg) hd hN hk (f_nextTextEnd hj hp ho hx) fun _ => h
end
end Go.HW
end
