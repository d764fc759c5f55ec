import Derived.Test.YtfbogkhgfaibbaaDoorHw20
namespace Go.HW
open Go Go.RowKit
set_option linter.unusedVariables false

/-! ### a block that a call is handed and turns -/
def I0 (x : Option Nat) (w : World) : Mem := fun b => if x = some b then none else w.heap[b]?
/-- 'u g' came back; 'Q g' of it, in the memory that stays; the block that was handed in is 'r' g' now and holds 'o' g'; nothing else has turned. -/
def PostX {G : Type} (u : G → Value) (Q : G → Mem → Prop) (r' : G → Option Nat) (o' : G → Obj) (x : Option Nat) (M : Mem) (w0 : World) (en : Ending) (w : World) : Prop :=
  ∃ g M', en = .returned (u g) ∧ Q g M' ∧ Ext M M' ∧ (∀ b, M b = none → M' b ≠ none → w0.heap.size ≤ b) ∧ Imm M' w ∧ (∀ b, r' g = some b → w.heap[b]? = some (o' g) ∧ M' b = none) ∧ (r' g = x ∨ ∀ b, r' g = some b → w0.heap.size ≤ b) ∧ w0.grownBy w x

theorem Cls.startX {w : World} {x : Option Nat} {o : Obj} (hx : ∀ b, x = some b → w.heap[b]? = some o) : Cls w (I0 x w) [(x, o)] w := by
  refine ⟨rfl, rfl, rfl, Nat.le_refl _, fun b u e => ?_, fun b u e => ?_, fun b u e => ?_, ?_⟩
  · unfold I0 at e
    split at e
    · cases e
    · exact e
  · simp only [List.mem_singleton, Prod.mk.injEq] at e
    obtain ⟨e1, rfl⟩ := e
    exact hx b e1.symm
  · simp only [List.mem_singleton, Prod.mk.injEq] at e
    unfold I0; rw [if_pos e.1.symm]
  · cases x <;> simp
theorem Env.startX {w : World} {x : Option Nat} {M : Mem} (h : Ext M (heapOf w)) (hx : ∀ b, x = some b → M b = none) : EnvX x w M M (I0 x w) := by
  refine ⟨fun b o e => ?_, fun b o hne e => ?_, Ext.refl _, fun b h1 h2 => absurd h2 h1⟩
  · unfold I0
    by_cases hb : x = some b
    · rw [hx b hb] at e; cases e
    · rw [if_neg hb]; exact h b o e
  · unfold I0; rw [if_neg hne]; exact e

/-- the block is turned, or another one, that is new, stands for it -/
theorem Cls.grownG {w0 w w' : World} {I : Nat → Option Obj} {H : Heap} {j : Nat} {r r' : Option Nat} {o o' : Obj} (hc : Cls w0 I H w) (hj : H[j]? = some (r, o)) (hg : w.grownBy w' r) (hr : r' = r ∨ ∀ b, r' = some b → w.heap.size ≤ b) (ho : ∀ b, r' = some b → w'.heap[b]? = some o') :
    Cls w0 I (H.set j (r', o')) w' := by
  have hlt : j < H.length := by
    rcases Nat.lt_or_ge j H.length with h | h
    · exact h
    · rw [List.getElem?_eq_none h] at hj; cases hj
  have hmem : (r, o) ∈ H := List.mem_of_getElem? hj
  have hsplit : ∀ (k : Nat) c u, (H.set j (r', o'))[k]? = some (some c, u) → (k = j ∧ r' = some c ∧ u = o') ∨ (k ≠ j ∧ H[k]? = some (some c, u) ∧ some c ≠ r) := fun k c u hk => by
    rw [List.getElem?_set] at hk
    by_cases hkj : j = k
    · subst hkj
      simp [hlt] at hk
      exact .inl ⟨rfl, hk.1, hk.2.symm⟩
    · simp [hkj] at hk
      refine .inr ⟨fun e => hkj e.symm, hk, fun e => ?_⟩
      rw [← e] at hj
      exact hkj (ids_unique hc.nodup hj hk)
  have hold : ∀ b u, w.heap[b]? = some u → some b ≠ r → w'.heap[b]? = some u := fun b u hb hne => by rw [hg.block b (lt_of_get hb) hne]; exact hb
  refine ⟨hg.os.trans hc.os, hg.tape.trans hc.tape, hg.output.trans hc.output, Nat.le_trans hc.size hg.size, fun b u hI => ?_, fun b u hm => ?_, fun b u hm => ?_, ?_⟩
  · refine hold b u (hc.imm b u hI) fun e => ?_
    have := hc.disj b o (by rw [e]; exact hmem)
    rw [this] at hI; cases hI
  · obtain ⟨k, hk⟩ := List.mem_iff_getElem?.1 hm
    rcases hsplit k b u hk with ⟨_, h1, rfl⟩ | ⟨_, h1, h2⟩
    · exact ho b h1
    · exact hold b u (hc.own b u (List.mem_of_getElem? h1)) h2
  · obtain ⟨k, hk⟩ := List.mem_iff_getElem?.1 hm
    rcases hsplit k b u hk with ⟨_, h1, rfl⟩ | ⟨_, h1, _⟩
    · rcases hr with h2 | h2
      · exact hc.disj b o (by rw [← h1, h2]; exact hmem)
      · cases hI : I b with
        | none => rfl
        | some u =>
          have := lt_of_get (hc.imm b u hI)
          have := h2 b h1; omega
    · exact hc.disj b u (List.mem_of_getElem? h1)
  · refine nodup_of fun i k b u u' h1 h2 => ?_
    rcases hsplit i b u h1 with ⟨e1, g1, _⟩ | ⟨e1, g1, n1⟩ <;> rcases hsplit k b u' h2 with ⟨e2, g2, _⟩ | ⟨e2, g2, n2⟩
    · omega
    · exfalso
      rcases hr with h3 | h3
      · exact n2 (by rw [← g1, h3])
      · have := lt_of_get (hc.own b u' (List.mem_of_getElem? g2))
        have := h3 b g1; omega
    · exfalso
      rcases hr with h3 | h3
      · exact n1 (by rw [← g2, h3])
      · have := lt_of_get (hc.own b u (List.mem_of_getElem? g1))
        have := h3 b g2; omega
    · exact ids_unique hc.nodup g1 g2

theorem Cls.moreG {w0 w' : World} {I : Mem} {H E : Heap} (hc : Cls w0 I H w') (hE : ∀ b o, (some b, o) ∈ E → w'.heap[b]? = some o ∧ I b = none ∧ ∀ u, (some b, u) ∉ H) (hn : (E.filterMap Prod.fst).Nodup) : Cls w0 I (E ++ H) w' := by
  refine ⟨hc.os, hc.tape, hc.output, hc.size, hc.imm, fun c u hm => ?_, fun c u hm => ?_, ?_⟩
  · rcases List.mem_append.1 hm with hm | hm
    · exact (hE c u hm).1
    · exact hc.own c u hm
  · rcases List.mem_append.1 hm with hm | hm
    · exact (hE c u hm).2.1
    · exact hc.disj c u hm
  · rw [List.filterMap_append, List.nodup_append]
    refine ⟨hn, hc.nodup, fun a ha b hb e => ?_⟩
    subst e
    obtain ⟨u, hu⟩ := mem_ids.1 ha
    obtain ⟨z, hz⟩ := mem_ids.1 hb
    exact (hE a u hu).2.2 z hz

section
variable {Kc : Act → World → Prop} {P : Program} {f : FuncId} {R : Ending → World → Prop} {N : Nat} {w0 w w' w1 : World} {I M M0 M' : Mem} {A J H : Heap} {xh : Option Nat} {k : List Item} {S : Slots}
theorem calls_of_TTX {fn : Func} {c : Code} {args : Array Value} {x : Option Nat} {o : Obj} (hx : ∀ b, x = some b → w.heap[b]? = some o) (hf : P.funcs[f]? = some fn) (hb : fn.body = some c) (hN : fn.ntmps = N) (hsz : Nat.ble args.size N = true) (hS : ∀ p ∈ S, args[p.1]? = some p.2)
    (h : TT P f R N w (I0 x w) [.code c] S [(x, o)]) : Calls P f args w R := by
  refine calls_of_T hf hb (h _ _ ⟨rfl, ?_, fun i v hi => ?_⟩ (Cls.startX hx))
  · have := Nat.le_of_ble_eq_true hsz
    simp; omega
  · have := hS (i, v) (get_mem hi)
    simp only at this ⊢
    rw [Array.getElem?_append_left (lt_of_get this)]; exact this

theorem post_of_cls {G : Type} {u : G → Value} {Q : G → Mem → Prop} {r' : G → Option Nat} {o' : G → Obj} {j : Nat} (g : G) (hE : EnvX xh w0 M0 M I) (hc : Cls w0 I H w) (hH : H[j]? = some (r' g, o' g)) (hQ : Q g M) : PostX u Q r' o' xh M0 w0 (.returned (u g)) w := by
  have hm : (r' g, o' g) ∈ H := List.mem_of_getElem? hH
  refine ⟨g, M, rfl, hQ, hE.grow, fun b h1 h2 => hE.new b h2 h1, hE.imm hc, fun b hb => ?_, ?_, ⟨hc.os, hc.tape, hc.output, hc.size, fun b hlt hne => ?_⟩⟩
  · rw [hb] at hm
    refine ⟨hc.own b _ hm, ?_⟩
    cases e : M b with
    | none => rfl
    | some z => have := hE.mi b z e; rw [hc.disj b _ hm] at this; cases this
  · cases hr : r' g with
    | none => exact .inr fun b h => by cases h
    | some b =>
      by_cases hx : xh = some b
      · exact .inl hx.symm
      · refine .inr fun c h => ?_
        cases h
        rcases Nat.lt_or_ge b w0.heap.size with h | h
        · have h4 := hE.hbase b w0.heap[b] hx (show w0.heap[b]? = _ from Array.getElem?_eq_getElem h)
          rw [hr] at hm
          rw [hc.disj b _ hm] at h4; cases h4
        · exact h
  · have h4 := hE.hbase b w0.heap[b] (Ne.symm hne) (show w0.heap[b]? = _ from Array.getElem?_eq_getElem hlt)
    rw [hc.imm _ _ h4]; exact (Array.getElem?_eq_getElem hlt).symm

theorem retX {G : Type} {u : G → Value} {Q : G → Mem → Prop} {r' : G → Option Nat} {o' : G → Obj} {j : Nat} (g : G) {fn : Func} {rs : List ResultVar} {vs : List Value} (hE : EnvX xh w0 M0 M I) (hf : P.funcs[f]? = some fn) (hrs : fn.results = rs.toArray) (hl : rs.length = vs.length)
    (hv : (if h : vs.toArray.size = 1 then vs.toArray[0] else .tuple vs.toArray) = u g) (hall : ∀ (i : Nat) (r : ResultVar) (u : Value), rs[i]? = some r → vs[i]? = some u → ResV P N w0 I S H r u) (hH : H[j]? = some (r' g, o' g)) (hQ : Q g M) :
    TT P f (PostX u Q r' o' xh M0 w0) N w0 I (.code .ret :: k) S H := fun a w ha hc =>
  T.ret (fin_of (u g) hf hrs hl hv hall ha hc (post_of_cls g hE hc hH hQ))
/-- .. where the code ends without a return -/
theorem endX {G : Type} {u : G → Value} {Q : G → Mem → Prop} {r' : G → Option Nat} {o' : G → Obj} {j : Nat} (g : G) {fn : Func} {rs : List ResultVar} {vs : List Value} (hE : EnvX xh w0 M0 M I) (hf : P.funcs[f]? = some fn) (hrs : fn.results = rs.toArray) (hl : rs.length = vs.length)
    (hv : (if h : vs.toArray.size = 1 then vs.toArray[0] else .tuple vs.toArray) = u g) (hall : ∀ (i : Nat) (r : ResultVar) (u : Value), rs[i]? = some r → vs[i]? = some u → ResV P N w0 I S H r u) (hH : H[j]? = some (r' g, o' g)) (hQ : Q g M) :
    TT P f (PostX u Q r' o' xh M0 w0) N w0 I [] S H := fun a w ha hc =>
  T.nil (fin_of (u g) hf hrs hl hv hall ha hc (post_of_cls g hE hc hH hQ))

theorem settle_newX {j : Nat} {r r' : Option Nat} {o o' : Obj} (hle : w0.heap.size ≤ w1.heap.size) (hcl : Cls w1 I (A ++ J) w) (hE : EnvX xh w0 M0 M (addJ I J)) (hj : A[j]? = some (r, o)) (hx : Ext M M') (hnew : ∀ b, M b = none → M' b ≠ none → w.heap.size ≤ b) (himm : Imm M' w')
    (ho : ∀ b, r' = some b → w'.heap[b]? = some o' ∧ M' b = none) (hr : r' = r ∨ ∀ b, r' = some b → w.heap.size ≤ b) (hg : w.grownBy w' r) :
    ∃ J', EnvX xh w0 M0 M' (addJ I J') ∧ Cls w1 I (A.set j (r', o') ++ J') w' := by
  have hlt : j < A.length := by
    rcases Nat.lt_or_ge j A.length with h | h
    · exact h
    · rw [List.getElem?_eq_none h] at hj; cases hj
  have hc1 : Cls w1 I (A.set j (r', o') ++ J) w' := by
    have := hcl.grownG (j := j) (by rw [List.getElem?_append_left hlt]; exact hj) hg hr (fun b hb => (ho b hb).1)
    rwa [List.set_append_left _ _ hlt] at this
  let J2 : Heap := (List.range w'.heap.size).filterMap fun b => if w.heap.size ≤ b then (M' b).map fun o => (some b, o) else none
  have hmem : ∀ r o, (r, o) ∈ J2 → ∃ b, r = some b ∧ w.heap.size ≤ b ∧ M' b = some o := fun r o hm => by
    obtain ⟨b, _, hb⟩ := List.mem_filterMap.1 hm
    split at hb
    · rename_i hle
      cases e : M' b with
      | none => rw [e] at hb; cases hb
      | some u => rw [e] at hb; cases hb; exact ⟨b, rfl, hle, e⟩
    · cases hb
  have hids : (J2.filterMap Prod.fst).Nodup := by
    have e1 : J2.filterMap Prod.fst = (List.range w'.heap.size).filter fun b => decide (w.heap.size ≤ b) && (M' b).isSome := by
      simp only [J2, List.filterMap_filterMap]
      induction List.range w'.heap.size with
      | nil => rfl
      | cons b r ih =>
        rw [List.filterMap_cons, List.filter_cons, ih]
        by_cases hle : w.heap.size ≤ b
        · cases e : M' b <;> simp [hle, e]
        · simp [hle]
    rw [e1]
    exact List.nodup_range.filter _
  have hcl2 : Cls w1 I (J2 ++ (A.set j (r', o') ++ J)) w' := by
    refine hc1.moreG (fun b o hm => ?_) hids
    obtain ⟨c, e1, h1, h2⟩ := hmem _ _ hm
    cases e1
    refine ⟨himm _ _ h2, ?_, fun u hu => ?_⟩
    · cases hI : I b with
      | none => rfl
      | some z => have := lt_of_get (hcl.imm b z hI); omega
    · rcases List.mem_append.1 hu with hu | hu
      · obtain ⟨i, hi⟩ := List.mem_iff_getElem?.1 hu
        rw [List.getElem?_set] at hi
        by_cases hij : j = i
        · simp [hij, show i < A.length by omega] at hi
          have := (ho b hi.1).2
          rw [h2] at this; cases this
        · simp [hij] at hi
          have := lt_of_get (hcl.own b u (List.mem_append_left _ (List.mem_of_getElem? hi)))
          omega
      · have := lt_of_get (hcl.own b u (List.mem_append_right _ hu))
        omega
  have hn := hcl2.nodup
  have hnJ : ((J2 ++ J).filterMap Prod.fst).Nodup := by
    refine hn.sublist (List.Sublist.filterMap _ ?_)
    exact List.Sublist.append (List.Sublist.refl _) (List.sublist_append_right _ _)
  have hJJ : Ext (addJ I J) (addJ I (J2 ++ J)) := fun b o h2 => by
    rcases addJ_cases h2 with h2 | ⟨h3, h2⟩
    · exact Ext.addJ _ _ b o h2
    · unfold addJ; rw [h3]
      exact inJ_of_mem hnJ (List.mem_append_right _ h2)
  refine ⟨J2 ++ J, ⟨fun b o e => ?_, fun b o hne e => hJJ b o (hE.hbase b o hne e), hE.grow.trans hx, fun b h1 h2 => ?_⟩, hcl2.perm (List.perm_append_comm_assoc J2 _ J)⟩
  · have hlt : b < w'.heap.size := lt_of_get (himm b o e)
    cases em : M b with
    | some u =>
      have h1 := hx b u em
      rw [e] at h1; cases h1
      exact hJJ b o (hE.mi b o em)
    | none =>
      have hge := hnew b em (by rw [e]; exact fun h => by cases h)
      have hmJ : (some b, o) ∈ J2 := List.mem_filterMap.2 ⟨b, by simpa using hlt, by rw [if_pos hge, e]; rfl⟩
      have hI : I b = none := hcl2.disj b o (List.mem_append_left _ hmJ)
      show addJ I (J2 ++ J) b = some o
      unfold addJ; rw [hI]
      exact inJ_of_mem hnJ (List.mem_append_left _ hmJ)
  · by_cases hM : M b = none
    · exact Nat.le_trans hle (Nat.le_trans hcl.size (hnew b hM h1))
    · exact hE.new b hM h2

variable {Kc : Act → World → Prop} {ops : Array Oper} {lab : Lab} {ids : Nat → Option Nat} {l : List Nat} {i d : Nat} {o : Oper}
theorem mem_none {b : Nat} {ob : Obj} {j : Nat} (hcl : Cls w1 I (A ++ J) w) (hE : EnvX xh w0 M0 M (addJ I J)) (hj : A[j]? = some (some b, ob)) : M b = none := by
  cases e : M b with
  | none => rfl
  | some z =>
    exfalso
    have hm := List.mem_of_getElem? hj
    rcases addJ_cases (hE.mi b z e) with h | ⟨_, h⟩
    · rw [hcl.disj b ob (List.mem_append_left _ hm)] at h; cases h
    · have hn := hcl.nodup
      rw [List.filterMap_append, List.nodup_append] at hn
      exact hn.2.2 b (mem_ids.2 ⟨_, hm⟩) b (mem_ids.2 ⟨_, h⟩) rfl
/-- A call that is handed a block of the caller's own, and turns it. -/
theorem DL.callX {G : Type} {u : G → Value} {Q : G → Mem → Prop} {r' : G → Option Nat} {o' : G → Obj} {cl : Call} {fo : Operand} {g : FuncId} {caps args all : Array Value} {j : Nat} {r : Option Nat} {ob : Obj} (H' : Option Nat → Obj → Heap → Heap) (hle : w0.heap.size ≤ w1.heap.size) (hE : EnvX xh w0 M0 M (addJ I J)) (hH : H = A ++ J) (hj : A[j]? = some (r, ob))
    (hH' : ∀ r o J', A.set j (r, o) ++ J' = H' r o J') (he : args ++ caps = all)
    (hi : ops[i]? = some o) (hw : Wn ops S o true) (hd : o.dst = some d) (hN : Nat.blt d N = true) (hk : (lab i).1 = .actx) (ho : o.op = .call cl) (hcal : cl.callee = .value fo) (hf : ev S fo = some (.func (.func g) #[] caps)) (hargs : ∀ ρ, Val S ρ → cl.args.map ρ = args)
    (hbody : ∀ w, (callFunc g all).run P w = .ok (.enter g all) w) (hc : ∀ w, Cls w1 I H w → Imm M w → (∀ b, r = some b → w.heap[b]? = some ob) → (∀ b, r = some b → M b = none) → Calls P g all w (PostX u Q r' o' r M w))
    (h : ∀ g M' J', EnvX xh w0 M0 M' (addJ I J') → Ext M M' → Q g M' → DK P N w1 I Kc ops lab ids l ((d, u g) :: S) (H' (r' g) (o' g) J')) : DK P N w1 I Kc ops lab ids (i :: l) S H :=
  DL.actx (X := {x : G × Mem × Heap // EnvX xh w0 M0 x.2.1 (addJ I x.2.2) ∧ Ext M x.2.1 ∧ Q x.1 x.2.1}) (u := fun x => u x.1.1) (H' := fun x => A.set j (r' x.1.1, o' x.1.1) ++ x.1.2.2) hi hw hd hN hk
    (fun ρ hρ w hcl => .inr (.inr ⟨g, all, w, by
      subst he
      simp only [execOp, ho, resolve, hcal, hargs ρ hρ]
      rw [hρ _ _ hf]
      show (callFunc g (#[] ++ args ++ caps)).run P w = _
      simpa using hbody w, by
      subst hH
      refine (hc w hcl (hE.immJ hcl rfl) (fun b hb => ?_) (fun b hb => ?_)).mono ?_
      · exact hcl.own b ob (List.mem_append_left _ (by rw [← hb]; exact List.mem_of_getElem? hj))
      · rw [hb] at hj; exact mem_none hcl hE hj
      rintro en w' ⟨g, M', he, hQ, hx, hnew, himm, ho, hr, hg⟩
      obtain ⟨J', h1, h2⟩ := settle_newX hle hcl hE hj hx hnew himm ho hr hg
      exact ⟨⟨(g, M', J'), h1, hx, hQ⟩, he, h2⟩⟩))
    fun x => by rw [hH']; exact h x.1.1 x.1.2.1 x.1.2.2 x.2.1 x.2.2.1 x.2.2.2
end
end Go.HW
