import Derived.Test.YtfbogkhgfaibbaaDoorHw11
namespace Go.HW
open Go Go.RowKit
set_option linter.unusedVariables false
set_option linter.unusedSimpArgs false

/-! ### what stays, as memory -/
abbrev Mem := Nat → Option Obj
def Ext (M M' : Mem) : Prop := ∀ b o, M b = some o → M' b = some o
theorem Ext.refl (M : Mem) : Ext M M := fun _ _ h => h
theorem Ext.trans {M M' M'' : Mem} (h : Ext M M') (h' : Ext M' M'') : Ext M M'' := fun b o e => h' b o (h b o e)
def inJ : Heap → Nat → Option Obj
  | [], _ => none
  | (some c, o) :: r, b => if c = b then some o else inJ r b
  | (none, _) :: r, b => inJ r b
def addJ (M : Mem) (J : Heap) : Mem := fun b => match M b with
  | some o => some o
  | none => inJ J b
theorem inJ_mem : ∀ {J : Heap} {b : Nat} {o : Obj}, inJ J b = some o → (some b, o) ∈ J
  | (some c, u) :: r, b, o, h => by
    unfold inJ at h
    split at h
    · subst_vars; cases h; exact List.mem_cons_self
    · exact List.mem_cons_of_mem _ (inJ_mem h)
  | (none, u) :: r, b, o, h => List.mem_cons_of_mem _ (inJ_mem (J := r) h)
theorem inJ_of_mem : ∀ {J : Heap} {b : Nat} {o : Obj}, (J.filterMap Prod.fst).Nodup → (some b, o) ∈ J → inJ J b = some o
  | (some c, u) :: r, b, o, hn, h => by
    unfold inJ
    simp only [List.filterMap_cons] at hn
    cases h with
    | head => simp
    | tail _ h =>
      have : c ≠ b := fun e => by subst e; exact (List.nodup_cons.1 hn).1 (mem_ids.2 ⟨o, h⟩)
      rw [if_neg this]
      exact inJ_of_mem (List.nodup_cons.1 hn).2 h
  | (none, u) :: r, b, o, hn, h => by
    unfold inJ
    cases h with
    | tail _ h => exact inJ_of_mem (by simpa using hn) h
theorem Ext.addJ (M : Mem) (J : Heap) : Ext M (addJ M J) := fun b o h => by unfold HW.addJ; rw [h]
theorem addJ_nil (M : Mem) : HW.addJ M [] = M := funext fun b => by
  unfold HW.addJ
  cases M b <;> rfl
theorem addJ_cases {M : Mem} {J : Heap} {b : Nat} {o : Obj} (h : HW.addJ M J b = some o) : M b = some o ∨ (M b = none ∧ (some b, o) ∈ J) := by
  unfold HW.addJ at h
  split at h
  · rename_i h'; cases h; exact .inl h'
  · rename_i h'; exact .inr ⟨h', inJ_mem h⟩

section
variable {w0 w : World} {I : Mem} {H A J : Heap}
theorem Cls.immJ (hc : Cls w0 I H w) (hs : ∀ p ∈ J, p ∈ H) : Imm (addJ I J) w := fun b o h => by
  rcases addJ_cases h with h | ⟨_, h⟩
  · exact hc.imm b o h
  · exact hc.own b o (hs _ h)
theorem Cls.settle (hc : Cls w0 I (A ++ J) w) : Cls w0 (addJ I J) A w := by
  refine ⟨hc.os, hc.tape, hc.output, hc.size, hc.immJ fun p hp => List.mem_append_right _ hp, fun b o h => hc.own b o (List.mem_append_left _ h), fun b o h => ?_, ?_⟩
  · cases e : addJ I J b with
    | none => rfl
    | some u =>
      rcases addJ_cases e with e | ⟨_, e⟩
      · rw [hc.disj b o (List.mem_append_left _ h)] at e; cases e
      · have hn := hc.nodup
        rw [List.filterMap_append, List.nodup_append] at hn
        exact absurd rfl (hn.2.2 b (mem_ids.2 ⟨o, h⟩) b (mem_ids.2 ⟨u, e⟩))
  · have hn := hc.nodup
    rw [List.filterMap_append, List.nodup_append] at hn
    exact hn.1

/-- 'M0': what stays, as the call began; 'M': .. now; 'I': all that nobody writes. -/
structure EnvX (xh : Option Nat) (w0 : World) (M0 M I : Mem) : Prop where
  mi : Ext M I
  hbase : ∀ b o, xh ≠ some b → heapOf w0 b = some o → I b = some o
  grow : Ext M0 M
  new : ∀ b, M b ≠ none → M0 b = none → w0.heap.size ≤ b
/-- .. where no block is turned that was there. -/
abbrev Env (w0 : World) (M0 M I : Mem) : Prop := EnvX none w0 M0 M I
theorem EnvX.base {w0 : World} {M0 M I : Mem} (h : EnvX none w0 M0 M I) : Ext (heapOf w0) I := fun b o e => h.hbase b o (fun h => by cases h) e
variable {M0 M M' : Mem} {xh : Option Nat}
theorem Env.start (h : Ext M0 (heapOf w0)) : Env w0 M0 M0 (heapOf w0) := ⟨h, fun _ _ _ h => h, Ext.refl _, fun b h1 h2 => absurd h2 h1⟩
theorem EnvX.nil (h : EnvX xh w0 M0 M I) : EnvX xh w0 M0 M (addJ I []) := by rw [addJ_nil]; exact h
theorem EnvX.imm {w1 : World} (h : EnvX xh w0 M0 M I) (hc : Cls w1 I H w) : Imm M w := fun b o e => hc.imm b o (h.mi b o e)
theorem EnvX.ext {w1 : World} (h : EnvX xh w0 M0 M I) (hc : Cls w1 I H w) : Ext M (heapOf w) := h.imm hc
theorem EnvX.immJ {w1 : World} (h : EnvX xh w0 M0 M (addJ I J)) (hc : Cls w1 I H w) (hH : H = A ++ J) : Imm M w := fun b o e => hc.immJ (J := J) (fun p hp => by rw [hH]; exact List.mem_append_right _ hp) b o (h.mi b o e)
theorem EnvX.extJ {w1 : World} (h : EnvX xh w0 M0 M (addJ I J)) (hc : Cls w1 I H w) (hH : H = A ++ J) : Ext M (heapOf w) := h.immJ hc hH
theorem Cls.belowE (hB : Ext (heapOf w0) I) (hc : Cls w0 I H w) : Below w0.heap.size w0 w :=
  ⟨hc.os, hc.tape, hc.output, hc.size, fun b hb => by
    cases e : w0.heap[b]? with
    | none => rw [Array.getElem?_eq_getElem hb] at e; cases e
    | some o => exact hc.imm b o (hB b o e)⟩
theorem Cls.fresh (hB : Ext (heapOf w0) I) (hc : Cls w0 I H w) {b : Nat} {o : Obj} (hm : (some b, o) ∈ H) : w0.heap.size ≤ b := by
  rcases Nat.lt_or_ge b w0.heap.size with h | h
  · have := hB b w0.heap[b] (show w0.heap[b]? = _ from Array.getElem?_eq_getElem h)
    rw [hc.disj b o hm] at this; cases this
  · exact h

section
variable {Kc : Act → World → Prop} {P : Program} {f : FuncId} {R : Ending → World → Prop} {N : Nat} {k : List Item} {S : Slots}
theorem TT.settle (hE : EnvX xh w0 M0 M (addJ I J)) (h : ∀ I', EnvX xh w0 M0 M I' → Ext I I' → TT P f R N w0 I' k S A) : TT P f R N w0 I k S (A ++ J) := fun a w ha hc =>
  h (addJ I J) hE (Ext.addJ _ _) a w ha hc.settle
theorem cons_eraseIdx {α : Type} : ∀ (l : List α) (j : Nat) (h : j < l.length), ([l[j]] ++ l.eraseIdx j).Perm l
  | a :: l, 0, h => List.Perm.refl _
  | a :: l, j + 1, h => by
    have ih := cons_eraseIdx l j (by simpa using h)
    simp only [List.getElem_cons_succ, List.eraseIdx_cons_succ, List.singleton_append] at ih ⊢
    exact (List.Perm.swap a _ _).trans (ih.cons a)
/-- An own block stays from here on. -/
theorem TT.freezeAtX {j : Nat} {r : Option Nat} {o : Obj} (hq : ∀ b, xh = some b → ∃ i o, i ≠ j ∧ H[i]? = some (some b, o)) (hE : EnvX xh w0 M0 M I) (hH : H[j]? = some (r, o)) (h : ∀ M' I', EnvX xh w0 M0 M' I' → Ext M M' → Ext I I' → (∀ b, r = some b → M' b = some o) → TT P f R N w0 I' k S (H.eraseIdx j)) : TT P f R N w0 I k S H := fun a w ha hc => by
  have hlt : j < H.length := by
    rcases Nat.lt_or_ge j H.length with h | h
    · exact h
    · rw [List.getElem?_eq_none h] at hH; cases hH
  have hget : H[j] = (r, o) := by rw [List.getElem?_eq_getElem hlt] at hH; exact Option.some.inj hH
  have hp : (H.eraseIdx j ++ [(r, o)]).Perm H := by
    rw [← hget]
    exact List.perm_append_comm.trans (cons_eraseIdx H j hlt)
  have hc' := (hc.perm hp.symm).settle
  have hxb : ∀ b, r = some b → xh ≠ some b := fun b e ex => by
    obtain ⟨i, o', hij, hi⟩ := hq b ex
    rw [e] at hH
    exact hij (ids_unique hc.nodup hi hH)
  have hr : ∀ b, r = some b → I b = none := fun b e => hc.disj b o (by rw [← e]; exact List.mem_of_getElem? hH)
  refine h (addJ M [(r, o)]) (addJ I [(r, o)]) ⟨fun b u e => ?_, fun b u hne e => Ext.addJ _ _ b u (hE.hbase b u hne e), fun b u e => Ext.addJ _ _ b u (hE.grow b u e), fun b h1 h2 => ?_⟩ (Ext.addJ _ _) (Ext.addJ _ _) (fun b e => ?_) a w ha hc'
  · rcases addJ_cases e with e | ⟨e0, e⟩
    · exact Ext.addJ _ _ b u (hE.mi b u e)
    · simp only [List.mem_singleton] at e
      injection e with e1 e2
      unfold addJ
      rw [hr b e1.symm]
      subst e2
      rw [← e1]; simp [inJ]
  · cases e : addJ M [(r, o)] b with
    | none => exact absurd e h1
    | some u =>
      rcases addJ_cases e with e | ⟨_, e⟩
      · exact hE.new b (by rw [e]; exact fun h => by cases h) h2
      · simp only [List.mem_singleton] at e
        injection e with e1 e2
        rcases Nat.lt_or_ge b w0.heap.size with hlt2 | hge
        · have h4 := hE.hbase b w0.heap[b] (hxb b e1.symm) (show w0.heap[b]? = _ from Array.getElem?_eq_getElem hlt2)
          rw [hr b e1.symm] at h4; cases h4
        · exact hge
  · unfold addJ
    cases e2 : M b with
    | some u => have := hE.mi b u e2; rw [hr b e] at this; cases this
    | none => subst e; simp [inJ]

theorem TT.freezeAt {j : Nat} {r : Option Nat} {o : Obj} (hE : Env w0 M0 M I) (hH : H[j]? = some (r, o)) (h : ∀ M' I', Env w0 M0 M' I' → Ext M M' → Ext I I' → (∀ b, r = some b → M' b = some o) → TT P f R N w0 I' k S (H.eraseIdx j)) : TT P f R N w0 I k S H :=
  TT.freezeAtX (fun b e => by cases e) hE hH h

/-- What a contract says that gives what stays: 'u g'; 'Q' of it, in the memory that it leaves. -/
def PostF {G : Type} (u : G → Value) (Q : G → Mem → Prop) (M : Mem) (w0 : World) (en : Ending) (w : World) : Prop :=
  ∃ g M', en = .returned (u g) ∧ Q g M' ∧ Ext M M' ∧ (∀ b, M b = none → M' b ≠ none → w0.heap.size ≤ b) ∧ Imm M' w ∧ Below w0.heap.size w0 w
theorem retF {G : Type} {u : G → Value} {Q : G → Mem → Prop} (g : G) {fn : Func} {rs : List ResultVar} {vs : List Value} (hE : Env w0 M0 M I) (hf : P.funcs[f]? = some fn) (hrs : fn.results = rs.toArray) (hl : rs.length = vs.length)
    (hv : (if h : vs.toArray.size = 1 then vs.toArray[0] else .tuple vs.toArray) = u g) (hall : ∀ (i : Nat) (r : ResultVar) (u : Value), rs[i]? = some r → vs[i]? = some u → ResV P N w0 I S H r u) (hQ : Q g M) :
    TT P f (PostF u Q M0 w0) N w0 I (.code .ret :: k) S H := fun a w ha hc =>
  T.ret (fin_of (u g) hf hrs hl hv hall ha hc ⟨g, M, rfl, hQ, hE.grow, fun b h1 h2 => hE.new b h2 h1, hE.imm hc, hc.belowE hE.base⟩)
theorem retnE {fn : Func} {rs : List ResultVar} {vs : List Value} {v : Value} {p : Value → Prop} (hB : Ext (heapOf w0) I) (hf : P.funcs[f]? = some fn) (hrs : fn.results = rs.toArray) (hl : rs.length = vs.length)
    (hv : (if h : vs.toArray.size = 1 then vs.toArray[0] else .tuple vs.toArray) = v) (hall : ∀ (i : Nat) (r : ResultVar) (u : Value), rs[i]? = some r → vs[i]? = some u → ResV P N w0 I S H r u) (hp : p v) :
    TT P f (Post p w0) N w0 I (.code .ret :: k) S H := fun a w ha hc =>
  T.ret (fin_of v hf hrs hl hv hall ha hc ⟨v, rfl, hp, hc.belowE hB⟩)
theorem res_nil (i : Nat) (r : ResultVar) (u : Value) (h : ([] : List ResultVar)[i]? = some r) (h2 : ([] : List Value)[i]? = some u) : ResV P N w0 I S H r u := by simp at h
theorem res_cons {r1 : ResultVar} {v1 : Value} {rs : List ResultVar} {vs : List Value} (h1 : ResV P N w0 I S H r1 v1) (h : ∀ (i : Nat) (r : ResultVar) (u : Value), rs[i]? = some r → vs[i]? = some u → ResV P N w0 I S H r u) :
    ∀ (i : Nat) (r : ResultVar) (u : Value), (r1 :: rs)[i]? = some r → (v1 :: vs)[i]? = some u → ResV P N w0 I S H r u
  | 0, r, u, hr, hu => by cases hr; cases hu; exact h1
  | i + 1, r, u, hr, hu => h i r u (by simpa using hr) (by simpa using hu)
variable {Kc : Act → World → Prop} {ops : Array Oper} {lab : Lab} {ids : Nat → Option Nat} {l : List Nat} {i d : Nat} {o : Oper}
/-- What a call leaves that stays goes to what stays. -/
theorem settle_new {w1 w' : World} (hle : w0.heap.size ≤ w1.heap.size) (hcl : Cls w1 I (A ++ J) w) (hE : EnvX xh w0 M0 M (addJ I J)) (hx : Ext M M') (hnew : ∀ b, M b = none → M' b ≠ none → w.heap.size ≤ b) (himm : Imm M' w') (hbel : Below w.heap.size w w') :
    ∃ J', EnvX xh w0 M0 M' (addJ I J') ∧ Cls w1 I (A ++ J') w' ∧ ∀ p ∈ J, p ∈ J' := by
  let J2 : Heap := (List.range w'.heap.size).filterMap fun b => if w.heap.size ≤ b then (M' b).map fun o => (some b, o) else none
  have hmem : ∀ r o, (r, o) ∈ J2 → ∃ b, r = some b ∧ w.heap.size ≤ b ∧ M' b = some o := fun r o hm => by
    obtain ⟨b, _, hb⟩ := List.mem_filterMap.1 hm
    split at hb
    · rename_i hle
      cases e : M' b with
      | none => rw [e] at hb; cases hb
      | some u => rw [e] at hb; cases hb; exact ⟨b, rfl, hle, e⟩
    · cases hb
  have hids : (J2.filterMap Prod.fst).Nodup := by
    have e1 : J2.filterMap Prod.fst = (List.range w'.heap.size).filter fun b => decide (w.heap.size ≤ b) && (M' b).isSome := by
      simp only [J2, List.filterMap_filterMap]
      induction List.range w'.heap.size with
      | nil => rfl
      | cons b r ih =>
        rw [List.filterMap_cons, List.filter_cons, ih]
        by_cases hle : w.heap.size ≤ b
        · cases e : M' b <;> simp [hle, e]
        · simp [hle]
    rw [e1]
    exact List.nodup_range.filter _
  have hcl2 : Cls w1 I (J2 ++ (A ++ J)) w' := by
    refine hcl.moreH hbel (fun b o hm => ?_) hids
    obtain ⟨c, e1, h1, h2⟩ := hmem _ _ hm
    cases e1
    exact ⟨h1, himm _ _ h2⟩
  have hn := hcl2.nodup
  have hnJ : ((J2 ++ J).filterMap Prod.fst).Nodup := by
    refine hn.sublist (List.Sublist.filterMap _ ?_)
    exact List.Sublist.append (List.Sublist.refl _) (List.sublist_append_right _ _)
  have hJJ : Ext (addJ I J) (addJ I (J2 ++ J)) := fun b o h2 => by
    rcases addJ_cases h2 with h2 | ⟨h3, h2⟩
    · exact Ext.addJ _ _ b o h2
    · unfold addJ; rw [h3]
      exact inJ_of_mem hnJ (List.mem_append_right _ h2)
  refine ⟨J2 ++ J, ⟨fun b o e => ?_, fun b o hne e => hJJ b o (hE.hbase b o hne e), hE.grow.trans hx, fun b h1 h2 => ?_⟩, hcl2.perm (List.perm_append_comm_assoc J2 A J), fun p hp => List.mem_append_right _ hp⟩
  · have hlt : b < w'.heap.size := lt_of_get (himm b o e)
    cases em : M b with
    | some u =>
      have h1 := hx b u em
      rw [e] at h1; cases h1
      exact hJJ b o (hE.mi b o em)
    | none =>
      have hge := hnew b em (by rw [e]; exact fun h => by cases h)
      have hmJ : (some b, o) ∈ J2 := List.mem_filterMap.2 ⟨b, by simpa using hlt, by rw [if_pos hge, e]; rfl⟩
      have hI : I b = none := hcl2.disj b o (List.mem_append_left _ hmJ)
      show addJ I (J2 ++ J) b = some o
      unfold addJ; rw [hI]
      exact inJ_of_mem hnJ (List.mem_append_left _ hmJ)
  · by_cases hM : M b = none
    · exact Nat.le_trans hle (Nat.le_trans hcl.size (hnew b hM h1))
    · exact hE.new b hM h2
/-- A call whose result stays. -/
theorem DL.callF {G : Type} {u : G → Value} {Q : G → Mem → Prop} {cl : Call} {fo : Operand} {g : FuncId} {caps args all : Array Value} {w1 : World} (H' : Heap → Heap) (hle : w0.heap.size ≤ w1.heap.size) (hE : EnvX xh w0 M0 M (addJ I J)) (hH : H = A ++ J) (hH' : ∀ J', A ++ J' = H' J') (he : args ++ caps = all)
    (hi : ops[i]? = some o) (hw : Wn ops S o true) (hd : o.dst = some d) (hN : Nat.blt d N = true) (hk : (lab i).1 = .keep) (ho : o.op = .call cl) (hcal : cl.callee = .value fo) (hf : ev S fo = some (.func (.func g) #[] caps)) (hargs : ∀ ρ, Val S ρ → cl.args.map ρ = args)
    (hbody : ∀ w, (callFunc g all).run P w = .ok (.enter g all) w) (hc : ∀ w, Cls w1 I H w → Imm M w → Calls P g all w (PostF u Q M w))
    (h : ∀ g M' J', EnvX xh w0 M0 M' (addJ I J') → Ext M M' → Q g M' → DK P N w1 I Kc ops lab ids l ((d, u g) :: S) (H' J')) : DK P N w1 I Kc ops lab ids (i :: l) S H :=
  DL.keep (X := {x : G × Mem × Heap // EnvX xh w0 M0 x.2.1 (addJ I x.2.2) ∧ Ext M x.2.1 ∧ Q x.1 x.2.1 ∧ ∀ p ∈ J, p ∈ x.2.2}) (u := fun x => u x.1.1) (H' := fun x => A ++ x.1.2.2) (fun x p hp => by
      rw [hH] at hp
      rcases List.mem_append.1 hp with hp | hp
      · exact List.mem_append_left _ hp
      · exact List.mem_append_right _ (x.2.2.2.2 p hp)) hi hw hd hN hk
    (fun ρ hρ w hcl => .inr (.inr ⟨g, all, w, by
      subst he
      simp only [execOp, ho, resolve, hcal, hargs ρ hρ]
      rw [hρ _ _ hf]
      show (callFunc g (#[] ++ args ++ caps)).run P w = _
      simpa using hbody w, (hc w hcl (hE.immJ hcl hH)).mono fun en w' ⟨g, M', he, hQ, hx, hnew, himm, hbel⟩ => by
        subst hH
        obtain ⟨J', h1, h2, h3⟩ := settle_new hle hcl hE hx hnew himm hbel
        exact ⟨⟨(g, M', J'), h1, hx, hQ, h3⟩, he, h2⟩⟩))
    fun x => by rw [hH']; exact h x.1.1 x.1.2.1 x.1.2.2 x.2.1 x.2.2.1 x.2.2.2.1
end
end
end Go.HW
