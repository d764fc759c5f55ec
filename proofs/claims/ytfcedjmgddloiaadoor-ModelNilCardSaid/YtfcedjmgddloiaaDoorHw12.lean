import Derived.Test.YtfcedjmgddloiaaDoorHw11
namespace Go.HW
open Go Go.RowKit
set_option linter.unusedVariables false
set_option linter.unusedSimpArgs false

/-! ### what stays, as memory -/
abbrev Mem := Nat → Option Obj
def Ext (M M' : Mem) : Prop := ∀ b o, M b = some o → M' b = some o
theorem Ext.refl (M : Mem) : Ext M M := fun _ _ h => h
theorem Ext.trans {M M' M'' : Mem} (h : Ext M M') (h' : Ext M' M'') : Ext M M'' := fun b o e => h' b o (h b o e)
def inJ : Heap → Nat → Option Obj
  | [], _ => none
  | (some c, o) :: r, b => if c = b then some o else inJ r b
  | (none, _) :: r, b => inJ r b
def addJ (M : Mem) (J : Heap) : Mem := fun b => match M b with
  | some o => some o
  | none => inJ J b
theorem inJ_mem : ∀ {J : Heap} {b : Nat} {o : Obj}, inJ J b = some o → (some b, o) ∈ J
  | (some c, u) :: r, b, o, h => by
    unfold inJ at h
    split at h
    · subst_vars; cases h; exact List.mem_cons_self
    · exact List.mem_cons_of_mem _ (inJ_mem h)
  | (none, u) :: r, b, o, h => List.mem_cons_of_mem _ (inJ_mem (J := r) h)
theorem inJ_of_mem : ∀ {J : Heap} {b : Nat} {o : Obj}, (J.filterMap Prod.fst).Nodup → (some b, o) ∈ J → inJ J b = some o
  | (some c, u) :: r, b, o, hn, h => by
    unfold inJ
    simp only [List.filterMap_cons] at hn
    cases h with
    | head => simp
    | tail _ h =>
      have : c ≠ b := fun e => by subst e; exact (List.nodup_cons.1 hn).1 (mem_ids.2 ⟨o, h⟩)
      rw [if_neg this]
      exact inJ_of_mem (List.nodup_cons.1 hn).2 h
  | (none, u) :: r, b, o, hn, h => by
    unfold inJ
    cases h with
    | tail _ h => exact inJ_of_mem (by simpa using hn) h
theorem Ext.addJ (M : Mem) (J : Heap) : Ext M (addJ M J) := fun b o h => by unfold HW.addJ; rw [h]
theorem addJ_nil (M : Mem) : HW.addJ M [] = M := funext fun b => by
  unfold HW.addJ
  cases M b <;> rfl
theorem addJ_cases {M : Mem} {J : Heap} {b : Nat} {o : Obj} (h : HW.addJ M J b = some o) : M b = some o ∨ (M b = none ∧ (some b, o) ∈ J) := by
  unfold HW.addJ at h
  split at h
  · rename_i h'; cases h; exact .inl h'
  · rename_i h'; exact .inr ⟨h', inJ_mem h⟩

section
variable {w0 w : World} {I : Mem} {H A J : Heap}
theorem Cls.immJ (hc : Cls w0 I H w) (hs : ∀ p ∈ J, p ∈ H) : Imm (addJ I J) w := fun b o h => by
  rcases addJ_cases h with h | ⟨_, h⟩
  · exact hc.imm b o h
  · exact hc.own b o (hs _ h)
theorem Cls.settle (hc : Cls w0 I (A ++ J) w) : Cls w0 (addJ I J) A w := by
  refine ⟨hc.os, hc.tape, hc.output, hc.size, hc.immJ fun p hp => List.mem_append_right _ hp, fun b o h => hc.own b o (List.mem_append_left _ h), fun b o h => ?_, ?_⟩
  · cases e : addJ I J b with
    | none => rfl
    | some u =>
      rcases addJ_cases e with e | ⟨_, e⟩
      · rw [hc.disj b o (List.mem_append_left _ h)] at e; cases e
      · have hn := hc.nodup
        rw [List.filterMap_append, List.nodup_append] at hn
        exact absurd rfl (hn.2.2 b (mem_ids.2 ⟨o, h⟩) b (mem_ids.2 ⟨u, e⟩))
  · have hn := hc.nodup
    rw [List.filterMap_append, List.nodup_append] at hn
    exact hn.1

/-- 'M0': what stays, as the call began; 'M': .. now; 'I': all that nobody writes. -/
structure Env (w0 : World) (M0 M I : Mem) : Prop where
  mi : Ext M I
  base : Ext (heapOf w0) I
  grow : Ext M0 M
  new : ∀ b, M b ≠ none → M0 b = none → w0.heap.size ≤ b
variable {M0 M M' : Mem}
theorem Env.nil (h : Env w0 M0 M I) : Env w0 M0 M (addJ I []) := by rw [addJ_nil]; exact h
theorem Env.imm {w1 : World} (h : Env w0 M0 M I) (hc : Cls w1 I H w) : Imm M w := fun b o e => hc.imm b o (h.mi b o e)
theorem Env.ext {w1 : World} (h : Env w0 M0 M I) (hc : Cls w1 I H w) : Ext M (heapOf w) := h.imm hc
theorem Env.immJ {w1 : World} (h : Env w0 M0 M (addJ I J)) (hc : Cls w1 I H w) (hH : H = A ++ J) : Imm M w := fun b o e => hc.immJ (J := J) (fun p hp => by rw [hH]; exact List.mem_append_right _ hp) b o (h.mi b o e)
theorem Cls.fresh (hB : Ext (heapOf w0) I) (hc : Cls w0 I H w) {b : Nat} {o : Obj} (hm : (some b, o) ∈ H) : w0.heap.size ≤ b := by
  rcases Nat.lt_or_ge b w0.heap.size with h | h
  · have := hB b w0.heap[b] (show w0.heap[b]? = _ from Array.getElem?_eq_getElem h)
    rw [hc.disj b o hm] at this; cases this
  · exact h

section
variable {P : Program} {f : FuncId} {R : Ending → World → Prop} {N : Nat} {k : List Item} {S : Slots}
theorem TT.settle (hE : Env w0 M0 M (addJ I J)) (h : ∀ I', Env w0 M0 M I' → Ext I I' → TT P f R N w0 I' k S A) : TT P f R N w0 I k S (A ++ J) := fun a w ha hc =>
  h (addJ I J) hE (Ext.addJ _ _) a w ha hc.settle
/-- What a contract says that gives what stays: 'u g'; 'Q' of it, in the memory that it leaves. -/
def PostF {G : Type} (u : G → Value) (Q : G → Mem → Prop) (M : Mem) (w0 : World) (en : Ending) (w : World) : Prop :=
  ∃ g M', en = .returned (u g) ∧ Q g M' ∧ Ext M M' ∧ (∀ b, M b = none → M' b ≠ none → w0.heap.size ≤ b) ∧ Imm M' w ∧ Below w0.heap.size w0 w
theorem res_nil (i : Nat) (r : ResultVar) (u : Value) (h : ([] : List ResultVar)[i]? = some r) (h2 : ([] : List Value)[i]? = some u) : ResV P N w0 I S H r u := by simp at h
theorem res_cons {r1 : ResultVar} {v1 : Value} {rs : List ResultVar} {vs : List Value} (h1 : ResV P N w0 I S H r1 v1) (h : ∀ (i : Nat) (r : ResultVar) (u : Value), rs[i]? = some r → vs[i]? = some u → ResV P N w0 I S H r u) :
    ∀ (i : Nat) (r : ResultVar) (u : Value), (r1 :: rs)[i]? = some r → (v1 :: vs)[i]? = some u → ResV P N w0 I S H r u
  | 0, r, u, hr, hu => by cases hr; cases hu; exact h1
  | i + 1, r, u, hr, hu => h i r u (by simpa using hr) (by simpa using hu)
variable {ops : Array Oper} {lab : Lab} {ids : Nat → Option Nat} {l : List Nat} {i d : Nat} {o : Oper}
/-- What a call leaves that stays goes to what stays. -/
theorem settle_new {w1 w' : World} (hle : w0.heap.size ≤ w1.heap.size) (hcl : Cls w1 I (A ++ J) w) (hE : Env w0 M0 M (addJ I J)) (hx : Ext M M') (hnew : ∀ b, M b = none → M' b ≠ none → w.heap.size ≤ b) (himm : Imm M' w') (hbel : Below w.heap.size w w') :
    ∃ J', Env w0 M0 M' (addJ I J') ∧ Cls w1 I (A ++ J') w' ∧ ∀ p ∈ J, p ∈ J' := by
  let J2 : Heap := (List.range w'.heap.size).filterMap fun b => if w.heap.size ≤ b then (M' b).map fun o => (some b, o) else none
  have hmem : ∀ r o, (r, o) ∈ J2 → ∃ b, r = some b ∧ w.heap.size ≤ b ∧ M' b = some o := fun r o hm => by
    obtain ⟨b, _, hb⟩ := List.mem_filterMap.1 hm
    split at hb
    · rename_i hle
      cases e : M' b with
      | none => rw [e] at hb; cases hb
      | some u => rw [e] at hb; cases hb; exact ⟨b, rfl, hle, e⟩
    · cases hb
  have hids : (J2.filterMap Prod.fst).Nodup := by
    have e1 : J2.filterMap Prod.fst = (List.range w'.heap.size).filter fun b => decide (w.heap.size ≤ b) && (M' b).isSome := by
      simp only [J2, List.filterMap_filterMap]
      induction List.range w'.heap.size with
      | nil => rfl
      | cons b r ih =>
        rw [List.filterMap_cons, List.filter_cons, ih]
        by_cases hle : w.heap.size ≤ b
        · cases e : M' b <;> simp [hle, e]
        · simp [hle]
    rw [e1]
    exact List.nodup_range.filter _
  have hcl2 : Cls w1 I (J2 ++ (A ++ J)) w' := by
    refine hcl.moreH hbel (fun b o hm => ?_) hids
    obtain ⟨c, e1, h1, h2⟩ := hmem _ _ hm
    cases e1
    exact ⟨h1, himm _ _ h2⟩
  have hn := hcl2.nodup
  have hnJ : ((J2 ++ J).filterMap Prod.fst).Nodup := by
    refine hn.sublist (List.Sublist.filterMap _ ?_)
    exact List.Sublist.append (List.Sublist.refl _) (List.sublist_append_right _ _)
  have hJJ : Ext (addJ I J) (addJ I (J2 ++ J)) := fun b o h2 => by
    rcases addJ_cases h2 with h2 | ⟨h3, h2⟩
    · exact Ext.addJ _ _ b o h2
    · unfold addJ; rw [h3]
      exact inJ_of_mem hnJ (List.mem_append_right _ h2)
  refine ⟨J2 ++ J, ⟨fun b o e => ?_, hE.base.trans hJJ, hE.grow.trans hx, fun b h1 h2 => ?_⟩, hcl2.perm (List.perm_append_comm_assoc J2 A J), fun p hp => List.mem_append_right _ hp⟩
  · have hlt : b < w'.heap.size := lt_of_get (himm b o e)
    cases em : M b with
    | some u =>
      have h1 := hx b u em
      rw [e] at h1; cases h1
      exact hJJ b o (hE.mi b o em)
    | none =>
      have hge := hnew b em (by rw [e]; exact fun h => by cases h)
      have hmJ : (some b, o) ∈ J2 := List.mem_filterMap.2 ⟨b, by simpa using hlt, by rw [if_pos hge, e]; rfl⟩
      have hI : I b = none := hcl2.disj b o (List.mem_append_left _ hmJ)
      show addJ I (J2 ++ J) b = some o
      unfold addJ; rw [hI]
      exact inJ_of_mem hnJ (List.mem_append_left _ hmJ)
  · by_cases hM : M b = none
    · exact Nat.le_trans hle (Nat.le_trans hcl.size (hnew b hM h1))
    · exact hE.new b hM h2
/-- A call whose result stays. -/
theorem DL.callF {G : Type} {u : G → Value} {Q : G → Mem → Prop} {cl : Call} {fo : Operand} {g : FuncId} {caps args all : Array Value} {w1 : World} (H' : Heap → Heap) (hle : w0.heap.size ≤ w1.heap.size) (hE : Env w0 M0 M (addJ I J)) (hH : H = A ++ J) (hH' : ∀ J', A ++ J' = H' J') (he : args ++ caps = all)
    (hi : ops[i]? = some o) (hw : Wn ops S o true) (hd : o.dst = some d) (hN : Nat.blt d N = true) (hk : (lab i).1 = .keep) (ho : o.op = .call cl) (hcal : cl.callee = .value fo) (hf : ev S fo = some (.func (.func g) #[] caps)) (hargs : ∀ ρ, Val S ρ → cl.args.map ρ = args)
    (hbody : ∀ w, (callFunc g all).run P w = .ok (.enter g all) w) (hc : ∀ w, Cls w1 I H w → Imm M w → Calls P g all w (PostF u Q M w))
    (h : ∀ g M' J', Env w0 M0 M' (addJ I J') → Ext M M' → Q g M' → DL P f R N w1 I k ops lab ids l ((d, u g) :: S) (H' J')) : DL P f R N w1 I k ops lab ids (i :: l) S H :=
  DL.keep (X := {x : G × Mem × Heap // Env w0 M0 x.2.1 (addJ I x.2.2) ∧ Ext M x.2.1 ∧ Q x.1 x.2.1 ∧ ∀ p ∈ J, p ∈ x.2.2}) (u := fun x => u x.1.1) (H' := fun x => A ++ x.1.2.2) (fun x p hp => by
      rw [hH] at hp
      rcases List.mem_append.1 hp with hp | hp
      · exact List.mem_append_left _ hp
      · exact List.mem_append_right _ (x.2.2.2.2 p hp)) hi hw hd hN hk
    (fun ρ hρ w hcl => .inr (.inr ⟨g, all, w, by
      subst he
      simp only [execOp, ho, resolve, hcal, hargs ρ hρ]
      rw [hρ _ _ hf]
      show (callFunc g (#[] ++ args ++ caps)).run P w = _
      simpa using hbody w, (hc w hcl (hE.immJ hcl hH)).mono fun en w' ⟨g, M', he, hQ, hx, hnew, himm, hbel⟩ => by
        subst hH
        obtain ⟨J', h1, h2, h3⟩ := settle_new hle hcl hE hx hnew himm hbel
        exact ⟨⟨(g, M', J'), h1, hx, hQ, h3⟩, he, h2⟩⟩))
    fun x => by rw [hH']; exact h x.1.1 x.1.2.1 x.1.2.2 x.2.1 x.2.2.1 x.2.2.2.1
end
end
end Go.HW
