import Derived.Test.YthldgjbmjgjogaaGreatDoorHw1
namespace Go.HW
set_option linter.unusedVariables false
set_option linter.unusedSimpArgs false
open Go Go.RowKit

/-! ### a region that draws its order -/

inductive Kd where
  | pure | quiet | look | alloc | store | act | actx | keep | free | storeF | storeB
  deriving DecidableEq

/-- 'i', then 'j': may they be turned round? -/
def calm : Kd → Kd → Bool
  | .pure, _ => true
  | .actx, _ => false
  | .keep, _ => false
  | .look, .keep => true
  | .look, .free => true
  | .quiet, .keep => true
  | .quiet, .free => true
  | .free, .alloc => true
  | _, .pure => true
  | .quiet, .quiet => true
  | .quiet, .look => true
  | .look, .quiet => true
  | .look, .look => true
  | .quiet, .alloc => true
  | .look, .alloc => true
  | .alloc, .alloc => true
  | .alloc, .look => true
  | .storeF, .alloc => true
  | _, _ => false

/-- Of each operation: what kind it is taken for, and the number of the block that it reads or writes alone (one that stood when the region began). -/
abbrev Lab := Nat → Kd × Option Nat

def calmL (lab : Lab) (i j : Nat) : Bool := calm (lab i).1 (lab j).1 || match (lab i).1, (lab j).1, (lab i).2, (lab j).2 with
  | .look, .store, some x, some y => !(Nat.beq x y)
  | .look, .storeF, some x, some y => !(Nat.beq x y)
  | .look, .storeB, some x, some y => !(Nat.beq x y)
  | .storeB, .storeB, some _, none => true
  | .storeB, .storeB, none, some _ => true
  | _, _, _, _ => false

inductive Eff : Type 1 where
  | val (v : Value)
  | new (ob : Obj) (mk : Nat → Value)
  | put (H : Heap)
  | act (X : Type) (v : X → Value) (H : X → Heap)

section
variable (P : Program) (ops : Array Oper) (w0 : World) (I : Nat → Option Obj) (lab : Lab) (ids : Nat → Option Nat)

def QuietRun (o : Oper) (a : Act) (w : World) (v : Value) : Prop :=
  (execOp a.eval o).run P w = .ok (.value v) w ∨
  ∃ f args, (execOp a.eval o).run P w = .ok (.enter f args) w ∧ Calls P f args w fun e w' => e = .returned v ∧ Below w.heap.size w w'

def ActRun (o : Oper) (a : Act) (w : World) (X : Type) (v : X → Value) (H : X → Heap) : Prop :=
  (∃ x w', (execOp a.eval o).run P w = .ok (.value (v x)) w' ∧ Cls w0 I (H x) w') ∨ (∃ x w', (execOp a.eval o).run P w = .ok .skip w' ∧ v x = undef ∧ Cls w0 I (H x) w') ∨
  ∃ f args w1, (execOp a.eval o).run P w = .ok (.enter f args) w1 ∧ Calls P f args w1 fun e w' => ∃ x, e = .returned (v x) ∧ Cls w0 I (H x) w'

/-- A store that turns one block, whatever else is owned; the block: that of a number, or one of none's. -/
def BPut (o : Oper) (a : Act) (x : Option Nat) (H H' : Heap) : Prop :=
  ∃ r ob ob' T, H.Perm ((r, ob) :: T) ∧ H'.Perm ((r, ob') :: T) ∧ (∀ T w, Cls w0 I ((r, ob) :: T) w → ∃ w', (execOp a.eval o).run P w = .ok .skip w' ∧ Cls w0 I ((r, ob') :: T) w') ∧
    match x with
    | some x => ids x = r ∧ r ≠ none ∧ ∀ z b, z ≠ x → ids z = some b → r ≠ some b
    | none => ∀ z b, ids z = some b → r ≠ some b
def Does1 (i : Nat) (o : Oper) (a : Act) (H : Heap) : Eff → Prop
  | .val v => ((lab i).1 = .pure ∧ ∀ w, Imm I w → (execOp a.eval o).run P w = .ok (.value v) w) ∨ ((lab i).1 = .quiet ∧ ∀ w, Cls w0 I H w → QuietRun P o a w v) ∨
      ((lab i).1 = .look ∧ ∃ x b ob, (lab i).2 = some x ∧ ids x = some b ∧ (some b, ob) ∈ H ∧ ∀ w, w.heap[b]? = some ob → (execOp a.eval o).run P w = .ok (.value v) w)
  | .new ob mk => (lab i).1 = .alloc ∧ ∀ w, (execOp a.eval o).run P w = .ok (.value (mk w.heap.size)) (w.alloc ob)
  | .put H' => ((lab i).1 = .store ∨ ((lab i).1 = .storeF ∧ ∀ E w, Cls w0 I (E ++ H) w → ∃ w', (execOp a.eval o).run P w = .ok .skip w' ∧ Cls w0 I (E ++ H') w') ∨ ((lab i).1 = .storeB ∧ BPut P w0 I ids o a (lab i).2 H H')) ∧ (∀ w, Cls w0 I H w → ∃ w', (execOp a.eval o).run P w = .ok .skip w' ∧ Cls w0 I H' w') ∧
      ∀ x, (lab i).2 = some x → ∀ z b ob, z ≠ x → ids z = some b → (some b, ob) ∈ H → (some b, ob) ∈ H'
  | .act X v H' => ((lab i).1 = .act ∨ (lab i).1 = .actx ∨ ((lab i).1 = .keep ∧ ∀ x p, p ∈ H → p ∈ H' x) ∨ ((lab i).1 = .free ∧ (∀ x p, p ∈ H → p ∈ H' x) ∧ ∀ E w, Cls w0 I (E ++ H) w → ActRun P w0 I o a w X v fun x => E ++ H' x)) ∧ ∀ w, Cls w0 I H w → ActRun P w0 I o a w X v H'

def Does (i : Nat) (o : Oper) (a : Act) (H : Heap) (e : Eff) : Prop :=
  (Region.wanted o (yielded ops a.tmps) = true ∧ Does1 P w0 I lab ids i o a H e) ∨ (Region.wanted o (yielded ops a.tmps) = false ∧ e = .val undef)

def After (w0 : World) (o : Oper) (a : Act) (H : Heap) (K : Act → Heap → Prop) : Eff → Prop
  | .val v => K (a.put o.dst v) H
  | .new ob mk => ∀ b, w0.heap.size ≤ b → K (a.put o.dst (mk b)) ((some b, ob) :: H)
  | .put H' => K (a.put o.dst undef) H'
  | .act X v H' => ∀ x : X, K (a.put o.dst (v x)) (H' x)

def stepD (i : Nat) (K : Act → Heap → Prop) (a : Act) (H : Heap) : Prop :=
  (∃ w, Cls w0 I H w) → match ops[i]? with
  | none => K a H
  | some o => ∃ e, Does P ops w0 I lab ids i o a H e ∧ After w0 o a H K e
end

theorem Cls.perm {w0 : World} {I : Nat → Option Obj} {H1 H2 : Heap} {w : World} (h : Cls w0 I H1 w) (hp : H1.Perm H2) : Cls w0 I H2 w :=
  ⟨h.os, h.tape, h.output, h.size, h.imm, fun b o e => h.own b o (hp.symm.subset e), fun b o e => h.disj b o (hp.symm.subset e), (hp.filterMap Prod.fst).nodup_iff.1 h.nodup⟩
theorem Cls.tail {w0 : World} {I : Nat → Option Obj} {H : Heap} {p : Option Nat × Obj} {w : World} (h : Cls w0 I (p :: H) w) : Cls w0 I H w := h.fewer (List.sublist_cons_self _ _)

def KMono (w0 : World) (I : Nat → Option Obj) (K : Act → Heap → Prop) : Prop := (∀ a H1 H2, H1.Perm H2 → K a H1 → K a H2) ∧ ∀ a H, (¬ ∃ w, Cls w0 I H w) → K a H

theorem ActRun.some {P : Program} {w0 : World} {I : Nat → Option Obj} {o : Oper} {a : Act} {w : World} {X : Type} {v : X → Value} {H : X → Heap} (h : ActRun P w0 I o a w X v H) : ∃ x w', Cls w0 I (H x) w' := by
  rcases h with ⟨x, w', _, hc⟩ | ⟨x, w', _, _, hc⟩ | ⟨f, args, w1, _, hc⟩
  · exact ⟨x, w', hc⟩
  · exact ⟨x, w', hc⟩
  · obtain ⟨e, w', fr, ⟨x, _, hx⟩, _⟩ := hc []
    exact ⟨x, w', hx⟩

section
variable {P : Program} {ops : Array Oper} {w0 : World} {I : Nat → Option Obj} {lab : Lab} {ids : Nat → Option Nat}

theorem Does.perm {i : Nat} {o : Oper} {a : Act} {H1 H2 : Heap} {e : Eff} (hw : H1.Perm H2) (h : Does P ops w0 I lab ids i o a H1 e) : Does P ops w0 I lab ids i o a H2 e := by
  rcases h with ⟨h1, h2⟩ | h
  · refine .inl ⟨h1, ?_⟩
    cases e with
    | val v =>
      rcases h2 with h2 | ⟨k, h⟩ | ⟨k, x, b, ob, hx, hb, hm, h⟩
      · exact .inl h2
      · exact .inr (.inl ⟨k, fun w hc => h w (hc.perm hw.symm)⟩)
      · exact .inr (.inr ⟨k, x, b, ob, hx, hb, hw.subset hm, h⟩)
    | new ob mk => exact h2
    | put H' => exact ⟨h2.1.imp id fun h => h.imp (fun h => ⟨h.1, fun E w hc => h.2 E w (hc.perm (hw.symm.append_left E))⟩) (fun ⟨h, r, ob, ob', T, k1, k2⟩ => ⟨h, r, ob, ob', T, hw.symm.trans k1, k2⟩), fun w hc => h2.2.1 w (hc.perm hw.symm), fun x hx z b ob hz hb hm => h2.2.2 x hx z b ob hz hb (hw.symm.subset hm)⟩
    | act X v H' => exact ⟨h2.1.imp id fun h => h.imp id fun h => h.imp (fun h => ⟨h.1, fun x p hp => h.2 x p (hw.symm.subset hp)⟩) fun h => ⟨h.1, fun x p hp => h.2.1 x p (hw.symm.subset hp), fun E w hc => h.2.2 E w (hc.perm (hw.symm.append_left E))⟩, fun w hc => h2.2 w (hc.perm hw.symm)⟩
  · exact .inr h

theorem Does.val_cons {i : Nat} {o : Oper} {a : Act} {H : Heap} {p : Option Nat × Obj} {v : Value} (h : Does P ops w0 I lab ids i o a H (.val v)) : Does P ops w0 I lab ids i o a (p :: H) (.val v) := by
  rcases h with ⟨h1, h2⟩ | h
  · refine .inl ⟨h1, ?_⟩
    rcases h2 with h2 | ⟨k, h⟩ | ⟨k, x, b, ob, hx, hb, hm, h⟩
    · exact .inl h2
    · exact .inr (.inl ⟨k, fun w hc => h w hc.tail⟩)
    · exact .inr (.inr ⟨k, x, b, ob, hx, hb, List.mem_cons_of_mem _ hm, h⟩)
  · exact .inr h
theorem Does.new_cons {i : Nat} {o : Oper} {a : Act} {H H2 : Heap} {ob : Obj} {mk : Nat → Value} (h : Does P ops w0 I lab ids i o a H (.new ob mk)) : Does P ops w0 I lab ids i o a H2 (.new ob mk) := by
  rcases h with ⟨h1, h2⟩ | ⟨_, h⟩
  · exact .inl ⟨h1, h2⟩
  · cases h

theorem stepD_vac {i : Nat} {K : Act → Heap → Prop} : ∀ a H, (¬ ∃ w, Cls w0 I H w) → stepD P ops w0 I lab ids i K a H := fun a H h h' => absurd h' h
theorem stepD_wk {i : Nat} {K : Act → Heap → Prop} (hK : KMono w0 I K) : KMono w0 I (stepD P ops w0 I lab ids i K) := by
  refine ⟨?_, stepD_vac⟩
  intro a H1 H2 hw h hin
  have h := h (by obtain ⟨w, hc⟩ := hin; exact ⟨w, hc.perm hw.symm⟩)
  split
  · rename_i ho; rw [ho] at h; exact hK.1 _ _ _ hw h
  · rename_i o ho
    rw [ho] at h
    obtain ⟨e, hd, ha⟩ := h
    refine ⟨e, hd.perm hw, ?_⟩
    cases e with
    | val v => exact hK.1 _ _ _ hw ha
    | new ob mk => exact fun b hb => hK.1 _ _ _ (hw.cons _) (ha b hb)
    | put H' => exact ha
    | act X v H' => exact ha

theorem stepD_mono {i : Nat} {K K' : Act → Heap → Prop} (hK : ∀ a H, K a H → K' a H) {a : Act} {H : Heap} (h : stepD P ops w0 I lab ids i K a H) : stepD P ops w0 I lab ids i K' a H := by
  intro hin
  have h := h hin
  split
  · rename_i ho; rw [ho] at h; exact hK _ _ h
  · rename_i o ho
    rw [ho] at h
    obtain ⟨e, hd, ha⟩ := h
    refine ⟨e, hd, ?_⟩
    cases e with
    | val v => exact hK _ _ ha
    | new ob mk => exact fun b hb => hK _ _ (ha b hb)
    | put H' => exact hK _ _ ha
    | act X v H' => exact fun x => hK _ _ (ha x)

theorem Does.put {i : Nat} {o : Oper} {a : Act} {H : Heap} {e : Eff} {d : Option Tmp} {v : Value} (hs : ∀ cs b, o.op ≠ .select cs b) (hd : ∀ t, d = some t → t ∉ o.looksAt ops) :
    Does P ops w0 I lab ids i o (a.put d v) H e ↔ Does P ops w0 I lab ids i o a H e := by
  unfold Does
  rw [wanted_put o a d v hd]
  have h1 : Does1 P w0 I lab ids i o (a.put d v) H e ↔ Does1 P w0 I lab ids i o a H e := by
    cases e <;> simp only [Does1, QuietRun, ActRun, BPut, execOp_put (ops := ops) o hs a d v hd]
  rw [h1]

theorem world_of_size (n : Nat) : ∃ w : World, w.heap.size = n := ⟨{ (default : World) with heap := Array.replicate n (.coro none) }, by simp⟩

theorem Does1.alloc_inj {i : Nat} {o : Oper} {a : Act} {H1 H2 : Heap} {ob ob' : Obj} {mk mk' : Nat → Value} (h : Does1 P w0 I lab ids i o a H1 (.new ob mk)) (h' : Does1 P w0 I lab ids i o a H2 (.new ob' mk')) : ob = ob' ∧ mk = mk' := by
  have hw : ∀ w : World, mk w.heap.size = mk' w.heap.size ∧ w.alloc ob = w.alloc ob' := fun w => by
    have := (h.2 w).symm.trans (h'.2 w)
    injection this with h1 h2
    injection h1 with h1
    exact ⟨h1, h2⟩
  refine ⟨?_, funext fun n => ?_⟩
  · have := (hw default).2
    have h2 : (World.alloc default ob).heap = (World.alloc default ob').heap := by rw [this]
    have h3 : (default : World).heap.push ob = (default : World).heap.push ob' := h2
    exact (Array.push_inj_right).1 h3
  · obtain ⟨w, rfl⟩ := world_of_size n
    exact (hw w).1

/-- A pure operation does the same whatever is owned. -/
theorem pure_val {j : Nat} {oj : Oper} {a : Act} {H : Heap} {e : Eff} (hk : (lab j).1 = .pure) (d : Does P ops w0 I lab ids j oj a H e) : ∃ v, e = .val v ∧ ∀ H', Does P ops w0 I lab ids j oj a H' (.val v) := by
  rcases d with ⟨hw, d⟩ | ⟨hw, rfl⟩
  · cases e with
    | val v =>
      rcases d with d | ⟨hd, _⟩ | ⟨hd, _⟩
      · exact ⟨v, rfl, fun _ => .inl ⟨hw, .inl d⟩⟩
      · rw [hk] at hd; cases hd
      · rw [hk] at hd; cases hd
    | new _ _ => have := d.1; rw [hk] at this; cases this
    | put _ => have := d.1; rw [hk] at this; rcases this with h | ⟨h, _⟩ | ⟨h, _⟩ <;> cases h
    | act _ _ _ => have := d.1; rw [hk] at this; rcases this with h | h | ⟨h, _⟩ | ⟨h, _⟩ <;> cases h
  · exact ⟨undef, rfl, fun _ => .inr ⟨hw, rfl⟩⟩

/-- Two operations that don't wait for each other are turned round. -/
theorem stepD_comm {i j : Nat} {oi oj : Oper} (hi : ops[i]? = some oi) (hj : ops[j]? = some oj) (hap : oi.apart ops oj = true) (hcalm : calmL lab i j = true) (hImm : ∃ w, Imm I w)
    (hsi : ∀ cs b, oi.op ≠ .select cs b) (hsj : ∀ cs b, oj.op ≠ .select cs b) {K : Act → Heap → Prop} (hK : KMono w0 I K) {a : Act} {H : Heap}
    (h : stepD P ops w0 I lab ids i (stepD P ops w0 I lab ids j K) a H) : stepD P ops w0 I lab ids j (stepD P ops w0 I lab ids i K) a H := by
  rintro ⟨w1, hw1⟩
  obtain ⟨h1, h2, h3⟩ := Oper.apart_spec hap
  have h := h ⟨w1, hw1⟩
  simp only [hi] at h
  obtain ⟨ei, di, ai⟩ := h
  have K2 : ∀ (u v : Value), (a.put oi.dst u).put oj.dst v = (a.put oj.dst v).put oi.dst u := fun u v => Act.put_comm a u v h2
  simp only [hj]
  have intoJ : ∀ {e : Eff}, Does P ops w0 I lab ids j oj a H e → After w0 oj a H (stepD P ops w0 I lab ids i K) e → ∃ e, Does P ops w0 I lab ids j oj a H e ∧ After w0 oj a H (stepD P ops w0 I lab ids i K) e := fun {e} d a' => ⟨e, d, a'⟩
  have intoI : ∀ {v : Value} {H' : Heap} {e : Eff}, Does P ops w0 I lab ids i oi a H' e → After w0 oi (a.put oj.dst v) H' K e → stepD P ops w0 I lab ids i K (a.put oj.dst v) H' := fun {v H' e} d a' => by
    intro _; simp only [hi]; exact ⟨e, (Does.put hsi h3).2 d, a'⟩
  have outJ : ∀ {v : Value} {H' : Heap}, stepD P ops w0 I lab ids j K (a.put oi.dst v) H' → (∃ w, Cls w0 I H' w) → ∃ e, Does P ops w0 I lab ids j oj a H' e ∧ After w0 oj (a.put oi.dst v) H' K e := fun {v H'} h hin => by
    have h := h hin
    simp only [hj] at h
    obtain ⟨e, d, a'⟩ := h
    exact ⟨e, (Does.put hsj h1).1 d, a'⟩
  cases ei with
  | val vi =>
    obtain ⟨ej, dj', aj⟩ := outJ (show stepD P ops w0 I lab ids j K (a.put oi.dst vi) H from ai) ⟨w1, hw1⟩
    refine intoJ dj' ?_
    cases ej with
    | val vj => exact intoI di (show K _ _ by rw [← K2]; exact aj)
    | new ob mk => exact fun b hb => intoI di.val_cons (show K _ _ by rw [← K2]; exact aj b hb)
    | put H' =>
      refine intoI (H' := H') (e := .val vi) ?_ (show K _ _ by rw [← K2]; exact aj)
      have hkj : ((lab j).1 = .store ∨ (lab j).1 = .storeF ∨ (lab j).1 = .storeB) ∧ ∀ x, (lab j).2 = some x → ∀ z b ob, z ≠ x → ids z = some b → (some b, ob) ∈ H → (some b, ob) ∈ H' := by
        rcases dj' with ⟨_, hd, _, hk⟩ | ⟨_, he⟩
        · exact ⟨hd.imp id fun h => h.imp (fun h => h.1) fun h => h.1, hk⟩
        · cases he
      rcases di with ⟨hw, hd⟩ | hd
      · rcases hd with hd | ⟨hd, _⟩ | ⟨hd, x, b, ob, hx, hbx, hm, hr⟩
        · exact .inl ⟨hw, .inl hd⟩
        · rcases hkj.1 with hs | hs | hs <;> simp [calmL, calm, hd, hs] at hcalm
        · refine .inl ⟨hw, .inr (.inr ⟨hd, x, b, ob, hx, hbx, ?_, hr⟩)⟩
          cases hy : (lab j).2 with
          | none => rcases hkj.1 with hs | hs | hs <;> simp [calmL, calm, hd, hs, hx, hy] at hcalm
          | some y =>
            have hne : x ≠ y := fun e => by subst e; rcases hkj.1 with hs | hs | hs <;> simp [calmL, calm, hd, hs, hx, hy] at hcalm
            exact hkj.2 y hy x _ _ hne hbx hm
      · exact .inr hd
    | act X v H' =>
      have hkj : (lab j).1 = .act ∨ (lab j).1 = .actx ∨ (((lab j).1 = .keep ∨ (lab j).1 = .free) ∧ ∀ x p, p ∈ H → p ∈ H' x) := by
        rcases dj' with ⟨_, hd, _⟩ | ⟨_, he⟩
        · rcases hd with hd | hd | ⟨hd, hk⟩ | ⟨hd, hk, _⟩
          · exact .inl hd
          · exact .inr (.inl hd)
          · exact .inr (.inr ⟨.inl hd, hk⟩)
          · exact .inr (.inr ⟨.inr hd, hk⟩)
        · cases he
      refine fun x => intoI (H' := H' x) (e := .val vi) ?_ (show K _ _ by rw [← K2]; exact aj x)
      rcases di with ⟨hw, hd⟩ | hd
      · rcases hd with hd | ⟨hd, _⟩ | ⟨hd, y, b, ob, hy, hby, hm, hr⟩
        · exact .inl ⟨hw, .inl hd⟩
        · rename_i hq
          rcases hkj with hkj | hkj | ⟨_, hk⟩
          · simp [calmL, calm, hd, hkj] at hcalm
          · simp [calmL, calm, hd, hkj] at hcalm
          · exact .inl ⟨hw, .inr (.inl ⟨hd, fun w hcl => hq w ⟨hcl.os, hcl.tape, hcl.output, hcl.size, hcl.imm, fun b o e => hcl.own b o (hk x _ e), fun b o e => hcl.disj b o (hk x _ e), hw1.nodup⟩⟩)⟩
        · rcases hkj with hkj | hkj | ⟨_, hk⟩
          · simp [calmL, calm, hd, hkj] at hcalm
          · simp [calmL, calm, hd, hkj] at hcalm
          · exact .inl ⟨hw, .inr (.inr ⟨hd, y, b, ob, hy, hby, hk x _ hm, hr⟩)⟩
      · exact .inr hd
  | new ob mk =>
    have hki : (lab i).1 = .alloc := by
      rcases di with ⟨_, hd, _⟩ | ⟨_, he⟩
      · exact hd
      · cases he
    have hall : ∀ b : Nat, w0.heap.size ≤ b → (∃ w, Cls w0 I ((some b, ob) :: H) w) → ∃ e, Does P ops w0 I lab ids j oj a ((some b, ob) :: H) e ∧ After w0 oj (a.put oi.dst (mk b)) ((some b, ob) :: H) K e := fun b hb hin => outJ (ai b hb) hin
    obtain ⟨e0, d0, _⟩ := hall _ hw1.size ⟨_, hw1.alloc ob⟩
    rcases d0 with ⟨hw, d0⟩ | ⟨hw, rfl⟩
    · cases e0 with
      | val v0 =>
        rcases d0 with hpure | ⟨hd, _⟩ | ⟨hlk, x, b, obx, hx, hbx, hm, hr⟩
        · refine intoJ (e := .val v0) (.inl ⟨hw, .inl hpure⟩) (intoI (e := .new ob mk) di fun b hb => ?_)
          by_cases hin : ∃ w, Cls w0 I ((some b, ob) :: H) w
          · obtain ⟨e, d, a'⟩ := hall b hb hin
            have he : e = .val v0 := by
              rcases d with ⟨_, d⟩ | ⟨hw', _⟩
              · cases e with
                | val v =>
                  rcases d with ⟨_, d⟩ | ⟨hd, _⟩ | ⟨hd, _⟩
                  · obtain ⟨wI, hI⟩ := hImm
                    have := (d wI hI).symm.trans (hpure.2 wI hI)
                    injection this with h4 _
                    injection h4 with h4
                    rw [h4]
                  · rw [hpure.1] at hd; cases hd
                  · rw [hpure.1] at hd; cases hd
                | new _ _ => have := d.1; rw [hpure.1] at this; cases this
                | put _ => have := d.1; rw [hpure.1] at this; rcases this with h | ⟨h, _⟩ | ⟨h, _⟩ <;> cases h
                | act _ _ _ => have := d.1; rw [hpure.1] at this; rcases this with h | h | ⟨h, _⟩ | ⟨h, _⟩ <;> cases h
              · rw [hw] at hw'; cases hw'
            subst he
            rw [← K2]; exact a'
          · exact hK.2 _ _ hin
        · exfalso; simp [calmL, calm, hki, hd] at hcalm
        · have hmem : ∃ ob2 v2, (some b, ob2) ∈ H ∧ ∀ w, w.heap[b]? = some ob2 → (execOp a.eval oj).run P w = .ok (.value v2) w := by
            cases hm with
            | tail _ hm => exact ⟨obx, v0, hm, hr⟩
            | head =>
              have hc2 : Cls w0 I ((some (w1.heap.size + 1), ob) :: H) ((w1.alloc (.coro none)).alloc ob) := by
                have := (hw1.alloc (.coro none)).alloc ob
                rw [World.size_alloc] at this
                exact this.fewer ((List.sublist_cons_self _ _).cons_cons _)
              obtain ⟨e, d, _⟩ := hall (w1.heap.size + 1) (Nat.le_succ_of_le hw1.size) ⟨_, hc2⟩
              rcases d with ⟨_, d⟩ | ⟨hw', _⟩
              · cases e with
                | val v =>
                  rcases d with ⟨hd, _⟩ | ⟨hd, _⟩ | ⟨_, x', b', ob', hx', hb', hm', hr'⟩
                  · rw [hlk] at hd; cases hd
                  · rw [hlk] at hd; cases hd
                  · rw [hx] at hx'; cases hx'
                    rw [hbx] at hb'; cases hb'
                    rcases List.mem_cons.1 hm' with h | h
                    · exfalso; injection h with h _; injection h with h; omega
                    · exact ⟨ob', v, h, hr'⟩
                | new _ _ => have := d.1; rw [hlk] at this; cases this
                | put _ => have := d.1; rw [hlk] at this; rcases this with h | ⟨h, _⟩ | ⟨h, _⟩ <;> cases h
                | act _ _ _ => have := d.1; rw [hlk] at this; rcases this with h | h | ⟨h, _⟩ | ⟨h, _⟩ <;> cases h
              · rw [hw] at hw'; cases hw'
          obtain ⟨ob2, v2, hm2, hr2⟩ := hmem
          refine intoJ (e := .val v2) (.inl ⟨hw, .inr (.inr ⟨hlk, x, b, ob2, hx, hbx, hm2, hr2⟩)⟩) (intoI (e := .new ob mk) di fun c hc => ?_)
          by_cases hin : ∃ w, Cls w0 I ((some c, ob) :: H) w
          · obtain ⟨e, d, a'⟩ := hall c hc hin
            have he : e = .val v2 := by
              rcases d with ⟨_, d⟩ | ⟨hw', _⟩
              · cases e with
                | val v =>
                  rcases d with ⟨hd, _⟩ | ⟨hd, _⟩ | ⟨_, x', b', ob', hx', hb', hm', hr'⟩
                  · rw [hlk] at hd; cases hd
                  · rw [hlk] at hd; cases hd
                  · rw [hx] at hx'; cases hx'
                    rw [hbx] at hb'; cases hb'
                    obtain ⟨w, hcl⟩ := hin
                    have e1 := hcl.own _ _ hm'
                    have e2 := hcl.own _ _ (List.mem_cons_of_mem _ hm2)
                    have := (hr' w e1).symm.trans (hr2 w e2)
                    injection this with h4 _
                    injection h4 with h4
                    rw [h4]
                | new _ _ => have := d.1; rw [hlk] at this; cases this
                | put _ => have := d.1; rw [hlk] at this; rcases this with h | ⟨h, _⟩ | ⟨h, _⟩ <;> cases h
                | act _ _ _ => have := d.1; rw [hlk] at this; rcases this with h | h | ⟨h, _⟩ | ⟨h, _⟩ <;> cases h
              · rw [hw] at hw'; cases hw'
            subst he
            rw [← K2]; exact a'
          · exact hK.2 _ _ hin
      | new ob2 mk2 =>
        refine intoJ (e := .new ob2 mk2) (.inl ⟨hw, d0⟩) fun b2 hb2 => intoI (e := .new ob mk) di.new_cons fun b hb => ?_
        by_cases hin : ∃ w, Cls w0 I ((some b, ob) :: H) w
        · obtain ⟨e, d, a'⟩ := hall b hb hin
          have he : e = .new ob2 mk2 := by
            rcases d with ⟨_, d⟩ | ⟨hw', _⟩
            · cases e with
              | val v => rcases d with ⟨hd, _⟩ | ⟨hd, _⟩ | ⟨hd, _⟩ <;> (have := d0.1; rw [hd] at this; cases this)
              | new ob3 mk3 => obtain ⟨rfl, rfl⟩ := Does1.alloc_inj d d0; rfl
              | put _ => have := d.1; have h5 := d0.1; rw [h5] at this; rcases this with h | ⟨h, _⟩ | ⟨h, _⟩ <;> cases h
              | act _ _ _ => have := d.1; have h5 := d0.1; rw [h5] at this; rcases this with h | h | ⟨h, _⟩ | ⟨h, _⟩ <;> cases h
            · rw [hw] at hw'; cases hw'
          subst he
          refine hK.1 _ _ _ (List.Perm.swap _ _ H) ?_
          rw [← K2]; exact a' b2 hb2
        · refine hK.2 _ _ fun ⟨w, hc⟩ => hin ⟨w, hc.fewer ?_⟩
          exact (List.sublist_cons_self _ _).cons_cons _
      | put H' => rcases d0.1 with hd | ⟨hd, _⟩ | ⟨hd, _⟩ <;> simp [calmL, calm, hki, hd] at hcalm
      | act X v H' => have hd := d0.1; rcases hd with hd | hd | ⟨hd, _⟩ | ⟨hd, _⟩ <;> simp [calmL, calm, hki, hd] at hcalm
    · refine intoJ (e := .val undef) (.inr ⟨hw, rfl⟩) (intoI (e := .new ob mk) di fun b hb => ?_)
      by_cases hin : ∃ w, Cls w0 I ((some b, ob) :: H) w
      · obtain ⟨e, d, a'⟩ := hall b hb hin
        have he : e = .val undef := by
          rcases d with ⟨hw', _⟩ | ⟨_, he⟩
          · rw [hw] at hw'; cases hw'
          · exact he
        subst he
        rw [← K2]; exact a'
      · exact hK.2 _ _ hin
  | put H' =>
    have hki : (lab i).1 = .store ∨ ((lab i).1 = .storeF ∧ Region.wanted oi (yielded ops a.tmps) = true ∧ (∀ E w, Cls w0 I (E ++ H) w → ∃ w', (execOp a.eval oi).run P w = .ok .skip w' ∧ Cls w0 I (E ++ H') w') ∧
        ∀ x, (lab i).2 = some x → ∀ z b ob, z ≠ x → ids z = some b → (some b, ob) ∈ H → (some b, ob) ∈ H') ∨ ((lab i).1 = .storeB ∧ Region.wanted oi (yielded ops a.tmps) = true ∧ BPut P w0 I ids oi a (lab i).2 H H') := by
      rcases di with ⟨hw, hd | hd | hd, _, hk⟩ | ⟨_, he⟩
      · exact .inl hd
      · exact .inr (.inl ⟨hd.1, hw, hd.2, hk⟩)
      · exact .inr (.inr ⟨hd.1, hw, hd.2⟩)
      · cases he
    have hkj : (lab j).1 = .pure ∨ ((lab i).1 = .storeF ∧ (lab j).1 = .alloc) ∨ ((lab i).1 = .storeB ∧ (lab j).1 = .storeB) := by
      rcases hki with hki | ⟨hki, _⟩ | ⟨hki, _⟩
      · left; cases hk : (lab j).1 <;> simp [calmL, calm, hki, hk] at hcalm <;> rfl
      · cases hk : (lab j).1 <;> first
          | exact .inl rfl
          | exact .inr (.inl ⟨hki, rfl⟩)
          | (exfalso; simp [calmL, calm, hki, hk] at hcalm)
      · cases hk : (lab j).1 <;> first
          | exact .inl rfl
          | exact .inr (.inr ⟨hki, rfl⟩)
          | (exfalso; simp [calmL, calm, hki, hk] at hcalm)
    have hin : ∃ w, Cls w0 I H' w := by
      rcases di with ⟨_, _, hd, _⟩ | ⟨_, he⟩
      · obtain ⟨w', _, hc⟩ := hd w1 hw1; exact ⟨w', hc⟩
      · cases he
    obtain ⟨ej, dj, aj⟩ := outJ (show stepD P ops w0 I lab ids j K (a.put oi.dst undef) H' from ai) hin
    rcases hkj with hkj | ⟨hsf, hkj⟩ | ⟨hsb, hkj⟩
    · obtain ⟨v, rfl, dj2⟩ := pure_val hkj dj
      exact intoJ (dj2 H) (intoI (e := .put H') di (show K _ _ by rw [← K2]; exact aj))
    · obtain ⟨_, hwi, hfr, hkp⟩ : (lab i).1 = .storeF ∧ Region.wanted oi (yielded ops a.tmps) = true ∧ (∀ E w, Cls w0 I (E ++ H) w → ∃ w', (execOp a.eval oi).run P w = .ok .skip w' ∧ Cls w0 I (E ++ H') w') ∧
          ∀ x, (lab i).2 = some x → ∀ z b ob, z ≠ x → ids z = some b → (some b, ob) ∈ H → (some b, ob) ∈ H' := by
        rcases hki with hki | hki | hki
        · rw [hki] at hsf; cases hsf
        · exact hki
        · rw [hki.1] at hsf; cases hsf
      rcases dj with ⟨hw, d0⟩ | ⟨hw, rfl⟩
      · cases ej with
        | val v0 => exfalso; rcases d0 with ⟨hd, _⟩ | ⟨hd, _⟩ | ⟨hd, _⟩ <;> (rw [hkj] at hd; cases hd)
        | put _ => exfalso; have := d0.1; rw [hkj] at this; rcases this with h | ⟨h, _⟩ | ⟨h, _⟩ <;> cases h
        | act _ _ _ => exfalso; have := d0.1; rw [hkj] at this; rcases this with h | h | ⟨h, _⟩ | ⟨h, _⟩ <;> cases h
        | new ob mk =>
          refine intoJ (e := .new ob mk) (.inl ⟨hw, d0⟩) fun b hb => intoI (H' := (some b, ob) :: H) (e := .put ((some b, ob) :: H')) ?_ ?_
          · refine .inl ⟨hwi, .inr (.inl ⟨hsf, fun E w hc => ?_⟩), fun w hc => hfr [(some b, ob)] w hc, fun x hx z b' ob' hz hzb hm => ?_⟩
            · have := hfr (E ++ [(some b, ob)]) w (by simpa using hc)
              simpa using this
            · rcases List.mem_cons.1 hm with h | h
              · rw [h]; exact List.mem_cons_self
              · exact List.mem_cons_of_mem _ (hkp x hx z b' ob' hz hzb h)
          · show K _ _
            rw [← K2]; exact aj b hb
      · exact intoJ (e := .val undef) (.inr ⟨hw, rfl⟩) (intoI (e := .put H') di (show K _ _ by rw [← K2]; exact aj))
    · obtain ⟨_, hwi, r1, o1, o1', T1, p1, p1', run1, cl1⟩ : (lab i).1 = .storeB ∧ Region.wanted oi (yielded ops a.tmps) = true ∧ BPut P w0 I ids oi a (lab i).2 H H' := by
        rcases hki with hki | hki | hki
        · rw [hki] at hsb; cases hsb
        · rw [hki.1] at hsb; cases hsb
        · exact hki
      rcases dj with ⟨hw, d0⟩ | ⟨hw, rfl⟩
      · cases ej with
        | val v0 => exfalso; rcases d0 with ⟨hd, _⟩ | ⟨hd, _⟩ | ⟨hd, _⟩ <;> (rw [hkj] at hd; cases hd)
        | act _ _ _ => exfalso; have := d0.1; rw [hkj] at this; rcases this with h | h | ⟨h, _⟩ | ⟨h, _⟩ <;> cases h
        | new ob mk => exfalso; have := d0.1; rw [hkj] at this; cases this
        | put H2 =>
          obtain ⟨r2, o2, o2', T2, p2, p2', run2, cl2⟩ : BPut P w0 I ids oj a (lab j).2 H' H2 := by
            rcases d0.1 with h | ⟨h, _⟩ | ⟨_, h⟩
            · rw [hkj] at h; cases h
            · rw [hkj] at h; cases h
            · exact h
          have hne : r1 ≠ r2 := by
            cases hx : (lab i).2 with
            | some x =>
              cases hy : (lab j).2 with
              | some y => exfalso; simp [calmL, calm, hsb, hkj, hx, hy] at hcalm
              | none =>
                rw [hx] at cl1; rw [hy] at cl2
                obtain ⟨e1, e2, _⟩ := cl1
                intro e
                cases hr : r1 with
                | none => exact e2 hr
                | some b => exact cl2 x b (by rw [e1, hr]) (by rw [← e, hr])
            | none =>
              cases hy : (lab j).2 with
              | none => exfalso; simp [calmL, calm, hsb, hkj, hx, hy] at hcalm
              | some y =>
                rw [hx] at cl1; rw [hy] at cl2
                obtain ⟨e1, e2, _⟩ := cl2
                intro e
                cases hr : r2 with
                | none => exact e2 hr
                | some b => exact cl1 y b (by rw [e1, hr]) (by rw [e, hr])
          have hm : (r2, o2) ∈ T1 := by
            have h4 : (r2, o2) ∈ (r1, o1') :: T1 := (p1'.symm.trans p2).mem_iff.2 List.mem_cons_self
            rcases List.mem_cons.1 h4 with h4 | h4
            · injection h4 with h5 _; exact absurd h5.symm hne
            · exact h4
          obtain ⟨u, v, hT⟩ := List.append_of_mem hm
          obtain ⟨T3, hT3⟩ : ∃ T3, T3 = u ++ v := ⟨_, rfl⟩
          have pT1 : T1.Perm ((r2, o2) :: T3) := by rw [hT, hT3]; exact List.perm_middle
          have pT2 : T2.Perm ((r1, o1') :: T3) := by
            have h4 : ((r2, o2) :: T2).Perm ((r2, o2) :: (r1, o1') :: T3) := p2.symm.trans (p1'.trans ((pT1.cons _).trans (List.Perm.swap _ _ _)))
            exact (List.perm_cons _).1 h4
          have pH : H.Perm ((r2, o2) :: (r1, o1) :: T3) := p1.trans ((pT1.cons _).trans (List.Perm.swap _ _ _))
          have hj : Does P ops w0 I lab ids j oj a H (.put ((r2, o2') :: (r1, o1) :: T3)) := by
            refine .inl ⟨hw, .inr (.inr ⟨hkj, r2, o2, o2', (r1, o1) :: T3, pH, List.Perm.refl _, run2, cl2⟩), fun w hc => run2 _ w (hc.perm pH), fun x hx z b ob hz hzb hm => ?_⟩
            rw [hx] at cl2
            have h4 := pH.mem_iff.1 hm
            rcases List.mem_cons.1 h4 with h4 | h4
            · injection h4 with h5 _; exact absurd h5.symm (cl2.2.2 z b hz hzb)
            · exact List.mem_cons_of_mem _ h4
          have pJ : ((r2, o2') :: (r1, o1) :: T3).Perm ((r1, o1) :: (r2, o2') :: T3) := List.Perm.swap _ _ _
          have p2'' : H2.Perm ((r1, o1') :: (r2, o2') :: T3) := p2'.trans ((pT2.cons _).trans (List.Perm.swap _ _ _))
          refine intoJ hj (intoI (e := .put H2) ?_ (show K _ _ by rw [← K2]; exact aj))
          refine .inl ⟨hwi, .inr (.inr ⟨hsb, r1, o1, o1', (r2, o2') :: T3, pJ, p2'', run1, cl1⟩), fun w hc => ?_, fun x hx z b ob hz hzb hm => ?_⟩
          · obtain ⟨w', h5, h6⟩ := run1 _ w (hc.perm pJ)
            exact ⟨w', h5, h6.perm p2''.symm⟩
          · rw [hx] at cl1
            have h4 := pJ.mem_iff.1 hm
            rcases List.mem_cons.1 h4 with h4 | h4
            · injection h4 with h5 _; exact absurd h5.symm (cl1.2.2 z b hz hzb)
            · exact p2''.mem_iff.2 (List.mem_cons_of_mem _ h4)
      · exact intoJ (e := .val undef) (.inr ⟨hw, rfl⟩) (intoI (e := .put H') di (show K _ _ by rw [← K2]; exact aj))
  | act X v H' =>
    have hki : (lab i).1 = .act ∨ ((lab i).1 = .free ∧ Region.wanted oi (yielded ops a.tmps) = true ∧ (∀ x p, p ∈ H → p ∈ H' x) ∧ ∀ E w, Cls w0 I (E ++ H) w → ActRun P w0 I oi a w X v fun x => E ++ H' x) := by
      rcases di with ⟨hw, hd | hd | ⟨hd, _⟩ | ⟨hd, hk, hr⟩, _⟩ | ⟨_, he⟩
      · exact .inl hd
      · exfalso; simp [calmL, calm, hd] at hcalm
      · exfalso; simp [calmL, calm, hd] at hcalm
      · exact .inr ⟨hd, hw, hk, hr⟩
      · cases he
    have hin0 : ∃ x w', Cls w0 I (H' x) w' := by
      rcases di with ⟨_, _, hd⟩ | ⟨_, he⟩
      · exact (hd w1 hw1).some
      · cases he
    obtain ⟨x0, wx, hx0⟩ := hin0
    have hkj : (lab j).1 = .pure ∨ ((lab i).1 = .free ∧ (lab j).1 = .alloc) := by
      rcases hki with hki | ⟨hki, _⟩
      · left; cases hk : (lab j).1 <;> simp [calmL, calm, hki, hk] at hcalm <;> rfl
      · cases hk : (lab j).1 <;> first
          | exact .inl rfl
          | exact .inr ⟨hki, rfl⟩
          | (exfalso; simp [calmL, calm, hki, hk] at hcalm)
    rcases hkj with hkj | ⟨hfree, hkj⟩
    · have hall : ∀ x, (∃ w, Cls w0 I (H' x) w) → ∃ u, (∀ H, Does P ops w0 I lab ids j oj a H (.val u)) ∧ K ((a.put oi.dst (v x)).put oj.dst u) (H' x) := fun x hin => by
        obtain ⟨ej, dj, aj⟩ := outJ (show stepD P ops w0 I lab ids j K (a.put oi.dst (v x)) (H' x) from ai x) hin
        obtain ⟨u, rfl, dj2⟩ := pure_val hkj dj
        exact ⟨u, dj2, aj⟩
      obtain ⟨u0, d0, _⟩ := hall x0 ⟨wx, hx0⟩
      refine intoJ (d0 H) (intoI (e := .act X v H') di fun x => ?_)
      by_cases hin : ∃ w, Cls w0 I (H' x) w
      · obtain ⟨u, d, hk⟩ := hall x hin
        have he : u = u0 := by
          rcases d H with ⟨hw, d⟩ | ⟨hw, e⟩
          · rcases d0 H with ⟨_, d0⟩ | ⟨hw', _⟩
            · rcases d with ⟨_, d⟩ | ⟨hd, _⟩ | ⟨hd, _⟩
              · rcases d0 with ⟨_, d0⟩ | ⟨hd, _⟩ | ⟨hd, _⟩
                · obtain ⟨wI, hI⟩ := hImm
                  have := (d wI hI).symm.trans (d0 wI hI)
                  injection this with h4 _
                  injection h4
                · rw [hkj] at hd; cases hd
                · rw [hkj] at hd; cases hd
              · rw [hkj] at hd; cases hd
              · rw [hkj] at hd; cases hd
            · rw [hw] at hw'; cases hw'
          · rcases d0 H with ⟨hw', _⟩ | ⟨_, e0⟩
            · rw [hw] at hw'; cases hw'
            · injection e with e; injection e0 with e0; rw [e, e0]
        subst he
        rw [← K2]; exact hk
      · exact hK.2 _ _ hin
    · obtain ⟨_, hwi, hkeep, hrun⟩ : (lab i).1 = .free ∧ Region.wanted oi (yielded ops a.tmps) = true ∧ (∀ x p, p ∈ H → p ∈ H' x) ∧ ∀ E w, Cls w0 I (E ++ H) w → ActRun P w0 I oi a w X v fun x => E ++ H' x := by
        rcases hki with hki | hki
        · rw [hki] at hfree; cases hfree
        · exact hki
      obtain ⟨e0, d0, _⟩ := outJ (show stepD P ops w0 I lab ids j K (a.put oi.dst (v x0)) (H' x0) from ai x0) ⟨wx, hx0⟩
      rcases d0 with ⟨hw, d0⟩ | ⟨hw, rfl⟩
      · cases e0 with
        | val v0 => exfalso; rcases d0 with ⟨hd, _⟩ | ⟨hd, _⟩ | ⟨hd, _⟩ <;> (rw [hkj] at hd; cases hd)
        | put _ => exfalso; have := d0.1; rw [hkj] at this; rcases this with h | ⟨h, _⟩ | ⟨h, _⟩ <;> cases h
        | act _ _ _ => exfalso; have := d0.1; rw [hkj] at this; rcases this with h | h | ⟨h, _⟩ | ⟨h, _⟩ <;> cases h
        | new ob mk =>
          refine intoJ (e := .new ob mk) (.inl ⟨hw, d0⟩) fun b hb => intoI (H' := (some b, ob) :: H) (e := .act X v fun x => (some b, ob) :: H' x) ?_ fun x => ?_
          · refine .inl ⟨hwi, .inr (.inr (.inr ⟨hfree, fun x p hp => ?_, fun E w hc => ?_⟩)), fun w hc => hrun [(some b, ob)] w hc⟩
            · cases hp with
              | head => exact List.mem_cons_self
              | tail _ hp => exact List.mem_cons_of_mem _ (hkeep x p hp)
            · have := hrun (E ++ [(some b, ob)]) w (by simpa using hc)
              simpa using this
          · by_cases hin : ∃ w, Cls w0 I (H' x) w
            · obtain ⟨e, d, a'⟩ := outJ (show stepD P ops w0 I lab ids j K (a.put oi.dst (v x)) (H' x) from ai x) hin
              have he : e = .new ob mk := by
                rcases d with ⟨_, d⟩ | ⟨hw', _⟩
                · cases e with
                  | val v => rcases d with ⟨hd, _⟩ | ⟨hd, _⟩ | ⟨hd, _⟩ <;> (rw [hkj] at hd; cases hd)
                  | new ob3 mk3 => obtain ⟨rfl, rfl⟩ := Does1.alloc_inj d d0; rfl
                  | put _ => have := d.1; rw [hkj] at this; rcases this with h | ⟨h, _⟩ | ⟨h, _⟩ <;> cases h
                  | act _ _ _ => have := d.1; rw [hkj] at this; rcases this with h | h | ⟨h, _⟩ | ⟨h, _⟩ <;> cases h
                · rw [hw] at hw'; cases hw'
              subst he
              show K _ _
              rw [← K2]; exact a' b hb
            · exact hK.2 _ _ fun ⟨w, hc⟩ => hin ⟨w, hc.tail⟩
      · refine intoJ (e := .val undef) (.inr ⟨hw, rfl⟩) (intoI (e := .act X v H') di fun x => ?_)
        by_cases hin : ∃ w, Cls w0 I (H' x) w
        · obtain ⟨e, d, a'⟩ := outJ (show stepD P ops w0 I lab ids j K (a.put oi.dst (v x)) (H' x) from ai x) hin
          have he : e = .val undef := by
            rcases d with ⟨hw', _⟩ | ⟨_, he⟩
            · rw [hw] at hw'; cases hw'
            · exact he
          subst he
          rw [← K2]; exact a'
        · exact hK.2 _ _ hin

/-- Whatever order is picked from here on. -/
def anyD (P : Program) (ops : Array Oper) (w0 : World) (I : Nat → Option Obj) (lab : Lab) (ids : Nat → Option Nat) (Q : Act → Heap → Prop) : Nat → Array Bool → Act → Heap → Prop
  | 0, listed, a, H => (∃ w, Cls w0 I H w) → Region.ready .any ops listed = [] ∧ Q a H
  | n + 1, listed, a, H => (Region.ready .any ops listed = [] → Q a H) ∧ ∀ i ∈ Region.ready .any ops listed, stepD P ops w0 I lab ids i (anyD P ops w0 I lab ids Q n (listed.setIfInBounds i true)) a H

theorem anyD_mono {Q : Act → Heap → Prop} (hQ : KMono w0 I Q) : ∀ (n : Nat) (listed : Array Bool), KMono w0 I (anyD P ops w0 I lab ids Q n listed)
  | 0, _ => ⟨fun a H1 H2 hw h ⟨w, hc⟩ => ⟨(h ⟨w, hc.perm hw.symm⟩).1, hQ.1 _ _ _ hw (h ⟨w, hc.perm hw.symm⟩).2⟩, fun a H h h' => absurd h' h⟩
  | n + 1, listed => ⟨fun a H1 H2 hw h => ⟨fun h0 => hQ.1 _ _ _ hw (h.1 h0), fun i hi => (stepD_wk (anyD_mono hQ n _)).1 _ _ _ hw (h.2 i hi)⟩, fun a H h => ⟨fun _ => hQ.2 _ _ h, fun i _ => stepD_vac _ _ h⟩⟩

/-- Does 'j' wait for 'i', by whatever steps? -/
def tw (ops : Array Oper) : Nat → Nat → Nat → Bool
  | 0, _, _ => false
  | n + 1, j, i => match ops[j]? with
    | none => false
    | some oj => oj.after.any fun e => Region.binds .any e && (Nat.beq e.on i || tw ops n e.on i)

/-- What has come up has come up behind what it waits for. -/
def Closed (ops : Array Oper) (listed : Array Bool) : Prop := ∀ j oj, ops[j]? = some oj → listed.getD j false = true → ∀ e ∈ oj.after, Region.binds .any e = true → listed.getD e.on false = true

theorem tw_listed {listed : Array Bool} (hc : Closed ops listed) : ∀ (n j i : Nat) (oj : Oper), ops[j]? = some oj → (∀ e ∈ oj.after, Region.binds .any e = true → listed.getD e.on false = true) → tw ops n j i = true → listed.getD i false = true
  | 0, _, _, _, _, _, h => by cases h
  | n + 1, j, i, oj, hj, hall, h => by
    simp only [tw, hj, Array.any_eq_true'] at h
    obtain ⟨e, he, h⟩ := h
    simp only [Bool.and_eq_true, Bool.or_eq_true] at h
    have h1 := hall e he h.1
    rcases h.2 with h2 | h2
    · rw [← Nat.eq_of_beq_eq_true h2]; exact h1
    · cases n with
      | zero => cases h2
      | succ n =>
        cases ho : ops[e.on]? with
        | none => simp [tw, ho] at h2
        | some oe => exact tw_listed hc (n + 1) e.on i oe ho (hc e.on oe ho h1) h2

theorem Closed.set {listed : Array Bool} (hc : Closed ops listed) {j : Nat} (hj : j ∈ Region.ready .any ops listed) : Closed ops (listed.setIfInBounds j true) := by
  obtain ⟨_, oj, hoj, hall⟩ := mem_ready.1 hj
  intro k ok hk hl e he hb
  by_cases hjk : j = k
  · subst hjk
    have : ok = oj := Option.some.inj (hk.symm.trans hoj)
    subst this
    exact getD_set_true (hall e he hb)
  · rw [getD_set_ne false hjk] at hl
    exact getD_set_true (hc k ok hk hl e he hb)

theorem anyD_first {Q : Act → Heap → Prop} (hQ : KMono w0 I Q) (hImm : ∃ w, Imm I w) {i : Nat} {oi : Oper} (hi : ops[i]? = some oi) (hsel : ∀ (j : Nat) (o : Oper) cs b, ops[j]? = some o → o.op ≠ .select cs b) :
    ∀ (n : Nat) (listed : Array Bool) (a : Act) (H : Heap),
      Closed ops listed → (∀ j oj, ops[j]? = some oj → j ≠ i → listed.getD j true = false → tw ops ops.size j i = false → oi.apart ops oj = true ∧ calmL lab i j = true) →
      i ∈ Region.ready .any ops listed → stepD P ops w0 I lab ids i (anyD P ops w0 I lab ids Q n (listed.setIfInBounds i true)) a H → anyD P ops w0 I lab ids Q (n + 1) listed a H := by
  intro n
  induction n with
  | zero =>
    intro listed a H hcl0 hfree0 hr h
    refine ⟨fun h0 => (by rw [h0] at hr; cases hr), fun j hj => ?_⟩
    by_cases hji : j = i
    · subst hji; exact h
    · rintro ⟨wj, hwj⟩
      exfalso
      have hno := ready_mono hj hji
      have h := h ⟨wj, hwj⟩
      rw [hi] at h
      obtain ⟨e, hd, ha⟩ := h
      have : Region.ready .any ops (listed.setIfInBounds i true) = [] := by
        cases e with
        | val v => exact ((show anyD P ops w0 I lab ids Q 0 _ _ _ from ha) ⟨wj, hwj⟩).1
        | new ob mk => exact (ha _ hwj.size ⟨_, hwj.alloc ob⟩).1
        | put H' =>
          rcases hd with ⟨_, _, hd, _⟩ | ⟨_, he⟩
          · obtain ⟨w', _, hc⟩ := hd wj hwj
            exact ((show anyD P ops w0 I lab ids Q 0 _ _ _ from ha) ⟨w', hc⟩).1
          · cases he
        | act X v H' =>
          rcases hd with ⟨_, _, hd⟩ | ⟨_, he⟩
          · obtain ⟨x, w', hc⟩ := (hd wj hwj).some
            exact (ha x ⟨w', hc⟩).1
          · cases he
      rw [this] at hno; cases hno
  | succ n ih =>
    intro listed a H hcl hfree hr h
    refine ⟨fun h0 => (by rw [h0] at hr; cases hr), fun j hj => ?_⟩
    by_cases hji : j = i
    · subst hji; exact h
    · obtain ⟨hjun, oj, hoj, hall⟩ := mem_ready.1 hj
      have hnot : tw ops ops.size j i = false := by
        cases ht : tw ops ops.size j i with
        | false => rfl
        | true =>
        exfalso
        have h1 := tw_listed hcl _ _ _ _ hoj hall ht
        have h0 := (mem_ready.1 hr).1
        rcases Nat.lt_or_ge i listed.size with h' | h'
        · simp [h'] at h0 h1; rw [h0] at h1; cases h1
        · simp [Array.getElem?_eq_none h'] at h1
      obtain ⟨hap, hcalm⟩ := hfree j oj hoj hji hjun hnot
      have hswap := stepD_comm hi hoj hap hcalm hImm (fun cs b => hsel i oi cs b hi) (fun cs b => hsel j oj cs b hoj) (anyD_mono hQ n _)
        (stepD_mono (fun a' H' h' => h'.2 j (ready_mono hj hji)) h)
      have hfree' : ∀ k ok, ops[k]? = some ok → k ≠ i → (listed.setIfInBounds j true).getD k true = false →
          tw ops ops.size k i = false → oi.apart ops ok = true ∧ calmL lab i k = true := fun k ok hk hki hun hno => by
        refine hfree k ok hk hki ?_ hno
        by_cases hjk : j = k
        · subst hjk; exact hjun
        · rw [getD_set_ne true hjk] at hun; exact hun
      refine stepD_mono (fun a' H' h' => ih (listed.setIfInBounds j true) a' H' (hcl.set hj) hfree' (ready_mono hr (Ne.symm hji)) ?_) hswap
      rw [Array.setIfInBounds_comm _ _ hji]
      exact h'

/-- The operations one behind the other, in this order. -/
def listD (P : Program) (ops : Array Oper) (w0 : World) (I : Nat → Option Obj) (lab : Lab) (ids : Nat → Option Nat) (Q : Act → Heap → Prop) : List Nat → Act → Heap → Prop
  | [], a, H => Q a H
  | i :: r, a, H => stepD P ops w0 I lab ids i (listD P ops w0 I lab ids Q r) a H

def freeD (ops : Array Oper) (lab : Lab) (listed : Array Bool) (i : Nat) : Bool :=
  match ops[i]? with
  | none => false
  | some oi => (List.range ops.size).all fun j => Nat.beq j i || listed.getD j true || match ops[j]? with
      | some oj => tw ops ops.size j i || (oi.apart ops oj && calmL lab i j)
      | none => true

def okD (ops : Array Oper) (lab : Lab) : List Nat → Array Bool → Bool
  | [], listed => (Region.ready .any ops listed).isEmpty
  | i :: r, listed => (Region.ready .any ops listed).contains i && freeD ops lab listed i && okD ops lab r (listed.setIfInBounds i true)

theorem freeD_spec {i : Nat} {oi : Oper} {listed : Array Bool} (hi : ops[i]? = some oi) (h : freeD ops lab listed i = true) (j : Nat) (oj : Oper)
    (hj : ops[j]? = some oj) (hne : j ≠ i) (hun : listed.getD j true = false) (hno : tw ops ops.size j i = false) :
    oi.apart ops oj = true ∧ calmL lab i j = true := by
  simp only [freeD, hi, List.all_eq_true, List.mem_range] at h
  have h1 := h j (Array.getElem?_eq_some_iff.1 hj).1
  have hb : Nat.beq j i = false := by
    cases hb : Nat.beq j i with
    | false => rfl
    | true => exact absurd (Nat.eq_of_beq_eq_true hb) hne
  simpa only [hj, Bool.or_eq_true, hb, hun, hno, Bool.false_eq_true, false_or, Bool.and_eq_true] using h1

theorem anyD_of_list {Q : Act → Heap → Prop} (hQ : KMono w0 I Q) (hImm : ∃ w, Imm I w) (hs : Region.noSelect ops = true) : ∀ (l : List Nat) (listed : Array Bool) (a : Act) (H : Heap),
    Closed ops listed → okD ops lab l listed = true → listD P ops w0 I lab ids Q l a H → anyD P ops w0 I lab ids Q l.length listed a H
  | [], listed, a, H, _, hB, h => fun _ => ⟨by simpa [okD] using hB, h⟩
  | i :: l, listed, a, H, hcl, hB, h => by
    simp only [okD, Bool.and_eq_true] at hB
    obtain ⟨⟨hr, hf⟩, hB'⟩ := hB
    have hr' : i ∈ Region.ready .any ops listed := by simpa using hr
    obtain ⟨_, oi, hi, _⟩ := mem_ready.1 hr'
    exact anyD_first hQ hImm hi (Region.noSelect_spec hs) l.length listed a H hcl (freeD_spec hi hf) hr'
      (stepD_mono (fun a' H' h' => anyD_of_list hQ hImm hs l _ a' H' (hcl.set hr') hB' h') h)

/-! #### the same check, for the kernel: with a row of bits for what each operation waits for -/
def bit (m i : Nat) : Bool := Nat.beq (Nat.land (Nat.shiftRight m i) 1) 1
theorem bit_eq (m i : Nat) : bit m i = m.testBit i := by
  have h1 : Nat.land (Nat.shiftRight m i) 1 = (m >>> i) % 2 := Nat.and_one_is_mod _
  have h2 := Nat.testBit_eq_decide_div_mod_eq (x := m) (i := i)
  rw [Nat.shiftRight_eq_div_pow] at h1
  unfold bit
  rw [h1, h2]
  cases h : decide (m / 2 ^ i % 2 = 1)
  · rw [decide_eq_false_iff_not] at h
    cases hb : Nat.beq (m / 2 ^ i % 2) 1 with
    | false => rfl
    | true => exact absurd (Nat.eq_of_beq_eq_true hb) h
  · rw [decide_eq_true_eq] at h; rw [h]; rfl
def unionOf (m : List Nat) (es : List Edge) : Nat := es.foldr (fun e acc => Nat.lor (Nat.lor (Nat.pow 2 e.on) (m.getD e.on 0)) acc) 0
theorem unionOf_bit {m : List Nat} {i : Nat} : ∀ {es : List Edge}, (unionOf m es).testBit i = true → ∃ e ∈ es, e.on = i ∨ (m.getD e.on 0).testBit i = true
  | [], h => by simp [unionOf] at h
  | e :: es, h => by
    have : unionOf m (e :: es) = (2 ^ e.on ||| m.getD e.on 0) ||| unionOf m es := rfl
    rw [this, Nat.testBit_or, Nat.testBit_or, Bool.or_eq_true, Bool.or_eq_true] at h
    rcases h with (h | h) | h
    · rw [Nat.testBit_two_pow] at h
      exact ⟨e, by simp, .inl (by simpa using h)⟩
    · exact ⟨e, by simp, .inr h⟩
    · obtain ⟨e', he, h⟩ := unionOf_bit h
      exact ⟨e', by simp [he], h⟩
def certOk (m : List Nat) : Nat → List Oper → Bool
  | _, [] => true
  | j, o :: r => (o.after.toList.all fun e => Region.binds .any e && Nat.blt e.on j || !(Region.binds .any e)) &&
      (match unionOf m (o.after.toList.filter (Region.binds .any)) with | u => Nat.beq (Nat.lor (m.getD j 0) u) u) && certOk m (j + 1) r
theorem certOk_get {m : List Nat} : ∀ (l : List Oper) (k j : Nat) (o : Oper), certOk m k l = true → l[j]? = some o →
    (∀ e ∈ o.after, Region.binds .any e = true → e.on < k + j) ∧ ∀ i, (m.getD (k + j) 0).testBit i = true → ∃ e ∈ o.after, Region.binds .any e = true ∧ (e.on = i ∨ (m.getD e.on 0).testBit i = true)
  | [], _, _, _, _, h => by simp at h
  | o :: r, k, j, o', hc, h => by
    simp only [certOk, Bool.and_eq_true] at hc
    obtain ⟨⟨h1, h2⟩, h3⟩ := hc
    match j, h with
    | 0, h =>
      cases h
      refine ⟨fun e he hb => ?_, fun i hi => ?_⟩
      · have := List.all_eq_true.1 h1 e (by simpa using he)
        rw [hb] at this
        simpa [Nat.blt_eq] using this
      · have hb : (m.getD k 0 ||| unionOf m (o.after.toList.filter (Region.binds .any))) = unionOf m (o.after.toList.filter (Region.binds .any)) := Nat.eq_of_beq_eq_true h2
        have : (unionOf m (o.after.toList.filter (Region.binds .any))).testBit i = true := by rw [← hb, Nat.testBit_or, show (m.getD k 0).testBit i = true from hi]; rfl
        obtain ⟨e, he, hh⟩ := unionOf_bit this
        rw [List.mem_filter] at he
        exact ⟨e, by simpa using he.1, he.2, hh⟩
    | j + 1, h =>
      have := certOk_get r (k + 1) j o' h3 (by simpa using h)
      rw [show k + 1 + j = k + (j + 1) by omega] at this
      exact this
theorem tw_mono : ∀ (n : Nat) {j i : Nat}, tw ops n j i = true → tw ops (n + 1) j i = true
  | 0, _, _, h => by cases h
  | n + 1, j, i, h => by
    unfold tw at h ⊢
    cases ho : ops[j]? with
    | none => rw [ho] at h; cases h
    | some oj =>
      simp only [ho, Array.any_eq_true', Bool.and_eq_true, Bool.or_eq_true] at h ⊢
      obtain ⟨e, he, hb, hh⟩ := h
      exact ⟨e, he, hb, hh.imp id (tw_mono n)⟩
theorem tw_le {n n' : Nat} (hn : n ≤ n') {j i : Nat} (h : tw ops n j i = true) : tw ops n' j i = true := by
  obtain ⟨k, rfl⟩ := Nat.exists_eq_add_of_le hn
  induction k with
  | zero => exact h
  | succ k ih => exact tw_mono _ (ih (by omega))
theorem tw_of_cert {m : List Nat} (hc : certOk m 0 ops.toList = true) (i : Nat) : ∀ (j : Nat) (oj : Oper), ops[j]? = some oj → (m.getD j 0).testBit i = true → tw ops (j + 1) j i = true := by
  intro j
  induction j using Nat.strongRecOn with
  | ind j ih =>
    intro oj hj hb
    obtain ⟨h1, h2⟩ := certOk_get ops.toList 0 j oj hc (by simpa using hj)
    simp only [Nat.zero_add] at h1 h2
    obtain ⟨e, he, hbind, hh⟩ := h2 i hb
    unfold tw
    rw [hj]
    simp only [Array.any_eq_true', Bool.and_eq_true, Bool.or_eq_true]
    refine ⟨e, he, hbind, ?_⟩
    rcases hh with hh | hh
    · exact .inl (by rw [hh]; exact Nat.beq_refl i)
    · right
      have hlt := h1 e he hbind
      have hl := (Array.getElem?_eq_some_iff.1 hj).1
      exact tw_le (by omega) (ih e.on hlt ops[e.on] (Array.getElem?_eq_getElem (by omega)) hh)
def pairsOk (ops : Array Oper) (lab : Lab) (m : List Nat) : List Nat → Bool
  | [] => true
  | i :: r => (match ops[i]? with
      | none => false
      | some oi => !(r.any (Nat.beq i)) && (oi.after.toList.all fun e => !(Region.binds .any e) || !(Nat.beq e.on i || r.any (Nat.beq e.on))) && r.all fun j => bit (m.getD j 0) i || match ops[j]? with
          | none => true
          | some oj => oi.apart ops oj && calmL lab i j) && pairsOk ops lab m r
def Inv (ops : Array Oper) (listed : Array Bool) (l : List Nat) : Prop := listed.size = ops.size ∧ ∀ j, j < ops.size → (listed.getD j true = false ↔ j ∈ l)
theorem any_beq {j : Nat} {l : List Nat} : l.any (Nat.beq j) = false ↔ j ∉ l := by
  rw [List.any_eq_false]
  constructor
  · intro h hm; exact h j hm (Nat.beq_refl j)
  · intro h x hx hb; rw [Nat.eq_of_beq_eq_true hb] at h; exact h hx
theorem getD_eq {listed : Array Bool} {j : Nat} (h : j < listed.size) (d : Bool) : listed.getD j d = listed[j] := by simp [Array.getD, h]
theorem okD_of_pairs {m : List Nat} (hc : certOk m 0 ops.toList = true) (he : ∀ (j : Nat) (oj : Oper), ops[j]? = some oj → ∀ e ∈ oj.after, Region.binds .any e = true → e.on < ops.size) : ∀ (l : List Nat) (listed : Array Bool), Inv ops listed l → pairsOk ops lab m l = true → okD ops lab l listed = true
  | [], listed, hI, _ => by
    simp only [okD, List.isEmpty_iff]
    cases hr : Region.ready .any ops listed with
    | nil => rfl
    | cons j _ =>
      obtain ⟨h0, oj, hj, _⟩ := mem_ready.1 (show j ∈ Region.ready .any ops listed by rw [hr]; simp)
      have := (hI.2 j (Array.getElem?_eq_some_iff.1 hj).1).1 h0
      cases this
  | i :: r, listed, hI, h => by
    simp only [pairsOk, Bool.and_eq_true] at h
    obtain ⟨h, hrest⟩ := h
    cases hi : ops[i]? with
    | none => rw [hi] at h; cases h
    | some oi =>
      rw [hi] at h
      simp only [Bool.and_eq_true, Bool.not_eq_true', any_beq] at h
      obtain ⟨⟨hnot, hafter⟩, hpairs⟩ := h
      have hil := (Array.getElem?_eq_some_iff.1 hi).1
      have hr : i ∈ Region.ready .any ops listed := by
        refine mem_ready.2 ⟨(hI.2 i hil).2 (by simp), oi, hi, fun e hm hb => ?_⟩
        have h1 := List.all_eq_true.1 hafter e (by simpa using hm)
        rw [hb] at h1
        simp only [Bool.not_true, Bool.false_or, Bool.not_eq_true', Bool.or_eq_false_iff, any_beq] at h1
        have hlt := he i oi hi e hm hb
        have h2 : ¬ listed.getD e.on true = false := fun h3 => by
          have := (hI.2 e.on hlt).1 h3
          rw [List.mem_cons] at this
          rcases this with h4 | h4
          · rw [h4, Nat.beq_refl] at h1; cases h1.1
          · exact h1.2 h4
        rw [getD_eq (by rw [hI.1]; exact hlt)] at h2 ⊢
        simpa using h2
      have hI' : Inv ops (listed.setIfInBounds i true) r := ⟨by simpa using hI.1, fun j hj => by
        by_cases hij : i = j
        · subst hij
          rw [getD_eq (by simpa [hI.1] using hj)]
          simp [hnot]
        · rw [getD_set_ne true hij, hI.2 j hj, List.mem_cons]
          constructor
          · rintro (e | e)
            · exact absurd e.symm hij
            · exact e
          · exact .inr⟩
      simp only [okD, Bool.and_eq_true]
      refine ⟨⟨by simpa using hr, ?_⟩, okD_of_pairs hc he r _ hI' hrest⟩
      simp only [freeD, hi, List.all_eq_true, List.mem_range]
      intro j hj
      cases hjo : ops[j]? with
      | none => simp
      | some oj =>
        simp only [Bool.or_eq_true]
        by_cases hlist : listed.getD j true = true
        · exact .inl (.inr hlist)
        · have h3 : j ∈ i :: r := (hI.2 j hj).1 (by simpa using hlist)
          rcases List.mem_cons.1 h3 with h4 | h4
          · exact .inl (.inl (by rw [h4]; exact Nat.beq_refl i))
          · right
            have h5 := List.all_eq_true.1 hpairs j h4
            rw [hjo] at h5
            simp only [Bool.or_eq_true] at h5
            rcases h5 with h5 | h5
            · rw [bit_eq] at h5
              exact .inl (tw_le (by omega) (tw_of_cert hc i j oj hjo h5))
            · exact .inr h5
def okP (ops : Array Oper) (lab : Lab) (l m : List Nat) : Bool := Nat.beq l.length ops.size && Region.noSelect ops && certOk m 0 ops.toList && ((List.range ops.size).all fun j => l.any (Nat.beq j)) && pairsOk ops lab m l
theorem okD_of_okP {l m : List Nat} (h : okP ops lab l m = true) : (Region.noSelect ops && Nat.beq l.length ops.size && okD ops lab l (Array.replicate ops.size false)) = true := by
  simp only [okP, Bool.and_eq_true] at h
  obtain ⟨⟨⟨⟨h1, h2⟩, h3⟩, h4⟩, h5⟩ := h
  rw [h1, h2, okD_of_pairs h3 (fun j oj hj e hm hb => ?_) l _ ⟨by simp, fun j hj => ?_⟩ h5]
  · rfl
  · have := (certOk_get ops.toList 0 j oj h3 (by simpa using hj)).1 e hm hb
    have := (Array.getElem?_eq_some_iff.1 hj).1
    omega
  · have h6 := List.all_eq_true.1 h4 j (by simpa using hj)
    have h7 : j ∈ l := by
      cases hb : l.any (Nat.beq j) with
      | false => rw [hb] at h6; cases h6
      | true =>
        obtain ⟨x, hx, hb⟩ := List.any_eq_true.1 hb
        rw [Nat.eq_of_beq_eq_true hb]; exact hx
    rw [getD_eq (by simpa using hj)]
    simp [h7]

theorem wpOp_of_stepD {i : Nat} {K : Act → Heap → Prop} {K' : Act → World → Prop} {Q : Exit → Act → World → Prop} {a : Act} {H : Heap} {w : World} (hc : Cls w0 I H w)
    (hK : ∀ a H w, Cls w0 I H w → K a H → K' a w) (h : stepD P ops w0 I lab ids i K a H) : wpOp P ops Q i K' a w := by
  have h := h ⟨w, hc⟩
  unfold wpOp
  split
  · rename_i ho; rw [ho] at h; exact hK _ _ _ hc h
  · rename_i o ho
    rw [ho] at h
    obtain ⟨e, hd, ha⟩ := h
    rcases hd with ⟨hw, hd⟩ | ⟨hw, rfl⟩
    · rw [if_pos hw]
      refine .inl ?_
      unfold Oper.wp
      cases e with
      | val v =>
        have hq : QuietRun P o a w v := by
          rcases hd with ⟨_, hd⟩ | ⟨_, hd⟩ | ⟨_, x, b, ob, _, _, hm, hd⟩
          · exact .inl (hd w hc.imm)
          · exact hd w hc
          · exact .inl (hd w (hc.own _ _ hm))
        rcases hq with hq | ⟨g, args, hq, hcalls⟩
        · rw [hq]; exact hK _ _ _ hc ha
        · rw [hq]
          simp only [Oper.upon]
          exact hcalls.mono fun e w' ⟨he, hb⟩ => by subst he; exact hK _ _ _ (hc.below hb) ha
      | new ob mk => rw [hd.2 w]; exact hK _ _ _ (hc.alloc ob) (ha _ hc.size)
      | put H' =>
        obtain ⟨w', hr, hc'⟩ := hd.2.1 w hc
        rw [hr]; exact hK _ _ _ hc' ha
      | act X v H' =>
        rcases hd.2 w hc with ⟨x, w', hr, hc'⟩ | ⟨x, w', hr, hv, hc'⟩ | ⟨g, args, w1, hr, hcalls⟩
        · rw [hr]; exact hK _ _ _ hc' (ha x)
        · rw [hr]
          have h1 := ha x
          rw [hv] at h1
          exact hK _ _ _ hc' h1
        · rw [hr]
          simp only [Oper.upon]
          exact hcalls.mono fun e w' ⟨x, he, hc'⟩ => by subst he; exact hK _ _ _ hc' (ha x)
    · rw [hw]; exact hK _ _ _ hc ha

theorem wpAny_of_anyD {Q : Act → Heap → Prop} {Q' : Exit → Act → World → Prop} (hQ : ∀ a H w, Cls w0 I H w → Q a H → Q' .normal a w) :
    ∀ (n : Nat) (listed : Array Bool) (a : Act) (H : Heap) (w : World), Cls w0 I H w → anyD P ops w0 I lab ids Q n listed a H → wpAny P .any ops Q' n listed a w
  | 0, _, _, _, _, hc, h => ⟨(h ⟨_, hc⟩).1, hQ _ _ _ hc (h ⟨_, hc⟩).2⟩
  | n + 1, _, _, _, _, hc, h => ⟨fun h0 => hQ _ _ _ hc (h.1 h0), fun i hi => wpOp_of_stepD hc (fun a' H' w' hc' h' => wpAny_of_anyD hQ n _ a' H' w' hc' h') (h.2 i hi)⟩

def labOf (l : List (Kd × Option Nat)) : Lab := fun i => l.getD i (.act, none)
def idsOf (H : Heap) : Nat → Option Nat := fun x => match H[x]? with
  | some p => p.1
  | none => none

theorem ids_inj {H : Heap} (hd : (H.filterMap Prod.fst).Nodup) : ∀ z y b, idsOf H z = some b → idsOf H y = some b → z = y := fun z y b hz hy => by
  have get : ∀ z, idsOf H z = some b → ∃ o, H[z]? = some (some b, o) := fun z hz => by
    unfold idsOf at hz
    split at hz
    · rename_i p hp
      obtain ⟨q, o⟩ := p
      simp only at hz
      subst hz
      exact ⟨o, hp⟩
    · cases hz
  obtain ⟨o, ho⟩ := get z hz
  obtain ⟨u, hu⟩ := get y hy
  exact ids_unique hd ho hu

theorem ids_lt {w0 : World} {H : Heap} {w : World} (hc : Cls w0 I H w) : ∀ z b, idsOf H z = some b → b < w.heap.size := fun z b hz => by
  unfold idsOf at hz
  split at hz
  · rename_i p hp
    obtain ⟨q, o⟩ := p
    simp only at hz
    subst hz
    exact lt_of_get (hc.own _ _ (List.mem_of_getElem? hp))
  · cases hz

/-- 'w1' is a later world than 'w0'. -/
def Later (w0 w1 : World) : Prop := w1.os = w0.os ∧ w1.tape = w0.tape ∧ w1.output = w0.output ∧ w0.heap.size ≤ w1.heap.size
theorem Cls.later {w0 w1 : World} {H : Heap} {w : World} (hl : Later w0 w1) (h : Cls w1 I H w) : Cls w0 I H w :=
  ⟨h.os.trans hl.1, h.tape.trans hl.2.1, h.output.trans hl.2.2.1, Nat.le_trans hl.2.2.2 h.size, h.imm, h.own, h.disj, h.nodup⟩

/-- A region that draws its order: one order serves all. -/
theorem wp_region_D {id : Nat} {l : List Nat} {ll : List (Kd × Option Nat)} {Q : Act → Heap → Prop} {Q' : Exit → Act → World → Prop} {a : Act} {H : Heap} {w : World} (hm : P.follows .mixedOrders = true)
    (hB : (Region.noSelect ops && Nat.beq l.length ops.size && okD ops (labOf ll) l (Array.replicate ops.size false)) = true) (hQm : KMono w I Q) (hQ : ∀ a H w', Cls w I H w' → Q a H → Q' .normal a w') (hc : Cls w0 I H w)
    (h : listD P ops w I (labOf ll) (idsOf H) Q l a H) : (Code.region id ops true).wp P Q' a w := by
  simp only [Bool.and_eq_true] at hB
  obtain ⟨⟨hs, hl⟩, hok⟩ := hB
  have hl' : l.length = ops.size := Nat.eq_of_beq_eq_true hl
  refine wp_region_any hm ?_
  rw [← hl']
  have hc' : Cls w I H { w with drawn := w.drawn + 1 } := ⟨rfl, rfl, rfl, Nat.le_refl _, hc.imm, hc.own, hc.disj, hc.nodup⟩
  exact wpAny_of_anyD hQ _ _ _ _ _ hc' (anyD_of_list hQm ⟨w, hc.imm⟩ hs l _ a H (fun j oj _ hl => by rw [getD_replicate_false] at hl; cases hl) (by rw [hl']; exact hok) h)
end
end Go.HW
