import Derived.Test.YtfbogkhgfaibbaaDoorHw20
import Derived.OrdersIn
import Derived.RangeFuncIn
import Derived.RangeFuncRecord
import Derived.RangeFuncLeaves
section
namespace Go.HW
open Go Go.RowKit
set_option linter.unusedVariables false

/-! ### a block that a call is handed and turns -/
def I0 (x : Option Nat) (w : World) : Mem := fun b => if x = some b then none else w.heap[b]?
/-- 'u g' came back; 'Q g' of it, in the memory that stays; the block that was handed in is 'r' g' now and holds 'o' g'; nothing else has turned. -/
def PostX {G : Type} (u : G → Value) (Q : G → Mem → Prop) (r' : G → Option Nat) (o' : G → Obj) (x : Option Nat) (M : Mem) (w0 : World) (en : Ending) (w : World) : Prop :=
  ∃ g M', en = .returned (u g) ∧ Q g M' ∧ Ext M M' ∧ (∀ b, M b = none → M' b ≠ none → w0.heap.size ≤ b) ∧ Imm M' w ∧ (∀ b, r' g = some b → w.heap[b]? = some (o' g) ∧ M' b = none) ∧ (r' g = x ∨ ∀ b, r' g = some b → w0.heap.size ≤ b) ∧ w0.grownBy w x

theorem Cls.startX {w : World} {x : Option Nat} {o : Obj} (hx : ∀ b, x = some b → w.heap[b]? = some o) : Cls w (I0 x w) [(x, o)] w := by
  refine ⟨rfl, rfl, rfl, Nat.le_refl _, fun b u e => ?_, fun b u e => ?_, fun b u e => ?_, ?_⟩
  · unfold I0 at e
    split at e
    · cases e
    · exact e
  · simp only [List.mem_singleton, Prod.mk.injEq] at e
    obtain ⟨e1, rfl⟩ := e
    exact hx b e1.symm
  · simp only [List.mem_singleton, Prod.mk.injEq] at e
    unfold I0; rw [if_pos e.1.symm]
  · cases x <;> simp
theorem Env.startX {w : World} {x : Option Nat} {M : Mem} (h : Ext M (heapOf w)) (hx : ∀ b, x = some b → M b = none) : EnvX x w M M (I0 x w) := by
  refine ⟨fun b o e => ?_, fun b o hne e => ?_, Ext.refl _, fun b h1 h2 => absurd h2 h1⟩
  · unfold I0
    by_cases hb : x = some b
    · rw [hx b hb] at e; cases e
    · rw [if_neg hb]; exact h b o e
  · unfold I0; rw [if_neg hne]; exact e

/-- the block is turned, or another one, that is new, stands for it -/
theorem Cls.grownG {w0 w w' : World} {I : Nat → Option Obj} {H : Heap} {j : Nat} {r r' : Option Nat} {o o' : Obj} (hc : Cls w0 I H w) (hj : H[j]? = some (r, o)) (hg : w.grownBy w' r) (hr : r' = r ∨ ∀ b, r' = some b → w.heap.size ≤ b) (ho : ∀ b, r' = some b → w'.heap[b]? = some o') :
    Cls w0 I (H.set j (r', o')) w' := by
  have hlt : j < H.length := by
    rcases Nat.lt_or_ge j H.length with h | h
    · exact h
    · rw [List.getElem?_eq_none h] at hj; cases hj
  have hmem : (r, o) ∈ H := List.mem_of_getElem? hj
  have hsplit : ∀ (k : Nat) c u, (H.set j (r', o'))[k]? = some (some c, u) → (k = j ∧ r' = some c ∧ u = o') ∨ (k ≠ j ∧ H[k]? = some (some c, u) ∧ some c ≠ r) := fun k c u hk => by
    rw [List.getElem?_set] at hk
    by_cases hkj : j = k
    · subst hkj
      simp [hlt] at hk
      exact .inl ⟨rfl, hk.1, hk.2.symm⟩
    · simp [hkj] at hk
      refine .inr ⟨fun e => hkj e.symm, hk, fun e => ?_⟩
      rw [← e] at hj
      exact hkj (ids_unique hc.nodup hj hk)
  have hold : ∀ b u, w.heap[b]? = some u → some b ≠ r → w'.heap[b]? = some u := fun b u hb hne => by rw [hg.block b (lt_of_get hb) hne]; exact hb
  refine ⟨hg.os.trans hc.os, hg.tape.trans hc.tape, hg.output.trans hc.output, Nat.le_trans hc.size hg.size, fun b u hI => ?_, fun b u hm => ?_, fun b u hm => ?_, ?_⟩
  · refine hold b u (hc.imm b u hI) fun e => ?_
    have := hc.disj b o (by rw [e]; exact hmem)
    rw [this] at hI; cases hI
  · obtain ⟨k, hk⟩ := List.mem_iff_getElem?.1 hm
    rcases hsplit k b u hk with ⟨_, h1, rfl⟩ | ⟨_, h1, h2⟩
    · exact ho b h1
    · exact hold b u (hc.own b u (List.mem_of_getElem? h1)) h2
  · obtain ⟨k, hk⟩ := List.mem_iff_getElem?.1 hm
    rcases hsplit k b u hk with ⟨_, h1, rfl⟩ | ⟨_, h1, _⟩
    · rcases hr with h2 | h2
      · exact hc.disj b o (by rw [← h1, h2]; exact hmem)
      · cases hI : I b with
        | none => rfl
        | some u =>
          have := lt_of_get (hc.imm b u hI)
          have := h2 b h1; omega
    · exact hc.disj b u (List.mem_of_getElem? h1)
  · refine nodup_of fun i k b u u' h1 h2 => ?_
    rcases hsplit i b u h1 with ⟨e1, g1, _⟩ | ⟨e1, g1, n1⟩ <;> rcases hsplit k b u' h2 with ⟨e2, g2, _⟩ | ⟨e2, g2, n2⟩
    · omega
    · exfalso
      rcases hr with h3 | h3
      · exact n2 (by rw [← g1, h3])
      · have := lt_of_get (hc.own b u' (List.mem_of_getElem? g2))
        have := h3 b g1; omega
    · exfalso
      rcases hr with h3 | h3
      · exact n1 (by rw [← g2, h3])
      · have := lt_of_get (hc.own b u (List.mem_of_getElem? g1))
        have := h3 b g2; omega
    · exact ids_unique hc.nodup g1 g2

theorem Cls.moreG {w0 w' : World} {I : Mem} {H E : Heap} (hc : Cls w0 I H w') (hE : ∀ b o, (some b, o) ∈ E → w'.heap[b]? = some o ∧ I b = none ∧ ∀ u, (some b, u) ∉ H) (hn : (E.filterMap Prod.fst).Nodup) : Cls w0 I (E ++ H) w' := by
  refine ⟨hc.os, hc.tape, hc.output, hc.size, hc.imm, fun c u hm => ?_, fun c u hm => ?_, ?_⟩
  · rcases List.mem_append.1 hm with hm | hm
    · exact (hE c u hm).1
    · exact hc.own c u hm
  · rcases List.mem_append.1 hm with hm | hm
    · exact (hE c u hm).2.1
    · exact hc.disj c u hm
  · rw [List.filterMap_append, List.nodup_append]
    refine ⟨hn, hc.nodup, fun a ha b hb e => ?_⟩
    subst e
    obtain ⟨u, hu⟩ := mem_ids.1 ha
    obtain ⟨z, hz⟩ := mem_ids.1 hb
    exact (hE a u hu).2.2 z hz

section
variable {Kc : Act → World → Prop} {P : Program} {f : FuncId} {R : Ending → World → Prop} {N : Nat} {w0 w w' w1 : World} {I M M0 M' : Mem} {A J H : Heap} {xh : Option Nat} {k : List Item} {S : Slots}
theorem calls_of_TTX {fn : Func} {c : Code} {args : Array Value} {x : Option Nat} {o : Obj} (hx : ∀ b, x = some b → w.heap[b]? = some o) (hf : P.funcs[f]? = some fn) (hb : fn.body = some c) (hN : fn.ntmps = N) (hsz : Nat.ble args.size N = true) (hS : ∀ p ∈ S, args[p.1]? = some p.2)
    (h : TT P f R N w (I0 x w) [.code c] S [(x, o)]) : Calls P f args w R := by
  refine calls_of_T hf hb (h _ _ ⟨rfl, ?_, fun i v hi => ?_⟩ (Cls.startX hx))
  · have := Nat.le_of_ble_eq_true hsz
    simp; omega
  · have := hS (i, v) (get_mem hi)
    simp only at this ⊢
    rw [Array.getElem?_append_left (lt_of_get this)]; exact this

theorem post_of_cls {G : Type} {u : G → Value} {Q : G → Mem → Prop} {r' : G → Option Nat} {o' : G → Obj} {j : Nat} (g : G) (hE : EnvX xh w0 M0 M I) (hc : Cls w0 I H w) (hH : H[j]? = some (r' g, o' g)) (hQ : Q g M) : PostX u Q r' o' xh M0 w0 (.returned (u g)) w := by
  have hm : (r' g, o' g) ∈ H := List.mem_of_getElem? hH
  refine ⟨g, M, rfl, hQ, hE.grow, fun b h1 h2 => hE.new b h2 h1, hE.imm hc, fun b hb => ?_, ?_, ⟨hc.os, hc.tape, hc.output, hc.size, fun b hlt hne => ?_⟩⟩
  · rw [hb] at hm
    refine ⟨hc.own b _ hm, ?_⟩
    cases e : M b with
    | none => rfl
    | some z => have := hE.mi b z e; rw [hc.disj b _ hm] at this; cases this
  · cases hr : r' g with
    | none => exact .inr fun b h => by cases h
    | some b =>
      by_cases hx : xh = some b
      · exact .inl hx.symm
      · refine .inr fun c h => ?_
        cases h
        rcases Nat.lt_or_ge b w0.heap.size with h | h
        · have h4 := hE.hbase b w0.heap[b] hx (show w0.heap[b]? = _ from Array.getElem?_eq_getElem h)
          rw [hr] at hm
          rw [hc.disj b _ hm] at h4; cases h4
        · exact h
  · have h4 := hE.hbase b w0.heap[b] (Ne.symm hne) (show w0.heap[b]? = _ from Array.getElem?_eq_getElem hlt)
    rw [hc.imm _ _ h4]; exact (Array.getElem?_eq_getElem hlt).symm

theorem retX {G : Type} {u : G → Value} {Q : G → Mem → Prop} {r' : G → Option Nat} {o' : G → Obj} {j : Nat} (g : G) {fn : Func} {rs : List ResultVar} {vs : List Value} (hE : EnvX xh w0 M0 M I) (hf : P.funcs[f]? = some fn) (hrs : fn.results = rs.toArray) (hl : rs.length = vs.length)
    (hv : (if h : vs.toArray.size = 1 then vs.toArray[0] else .tuple vs.toArray) = u g) (hall : ∀ (i : Nat) (r : ResultVar) (u : Value), rs[i]? = some r → vs[i]? = some u → ResV P N w0 I S H r u) (hH : H[j]? = some (r' g, o' g)) (hQ : Q g M) :
    TT P f (PostX u Q r' o' xh M0 w0) N w0 I (.code .ret :: k) S H := fun a w ha hc =>
  T.ret (fin_of (u g) hf hrs hl hv hall ha hc (post_of_cls g hE hc hH hQ))
/-- .. where the code ends without a return -/
theorem endX {G : Type} {u : G → Value} {Q : G → Mem → Prop} {r' : G → Option Nat} {o' : G → Obj} {j : Nat} (g : G) {fn : Func} {rs : List ResultVar} {vs : List Value} (hE : EnvX xh w0 M0 M I) (hf : P.funcs[f]? = some fn) (hrs : fn.results = rs.toArray) (hl : rs.length = vs.length)
    (hv : (if h : vs.toArray.size = 1 then vs.toArray[0] else .tuple vs.toArray) = u g) (hall : ∀ (i : Nat) (r : ResultVar) (u : Value), rs[i]? = some r → vs[i]? = some u → ResV P N w0 I S H r u) (hH : H[j]? = some (r' g, o' g)) (hQ : Q g M) :
    TT P f (PostX u Q r' o' xh M0 w0) N w0 I [] S H := fun a w ha hc =>
  T.nil (fin_of (u g) hf hrs hl hv hall ha hc (post_of_cls g hE hc hH hQ))

theorem settle_newX {j : Nat} {r r' : Option Nat} {o o' : Obj} (hle : w0.heap.size ≤ w1.heap.size) (hcl : Cls w1 I (A ++ J) w) (hE : EnvX xh w0 M0 M (addJ I J)) (hj : A[j]? = some (r, o)) (hx : Ext M M') (hnew : ∀ b, M b = none → M' b ≠ none → w.heap.size ≤ b) (himm : Imm M' w')
    (ho : ∀ b, r' = some b → w'.heap[b]? = some o' ∧ M' b = none) (hr : r' = r ∨ ∀ b, r' = some b → w.heap.size ≤ b) (hg : w.grownBy w' r) :
    ∃ J', EnvX xh w0 M0 M' (addJ I J') ∧ Cls w1 I (A.set j (r', o') ++ J') w' := by
  have hlt : j < A.length := by
    rcases Nat.lt_or_ge j A.length with h | h
    · exact h
    · rw [List.getElem?_eq_none h] at hj; cases hj
  have hc1 : Cls w1 I (A.set j (r', o') ++ J) w' := by
    have := hcl.grownG (j := j) (by rw [List.getElem?_append_left hlt]; exact hj) hg hr (fun b hb => (ho b hb).1)
    rwa [List.set_append_left _ _ hlt] at this
  let J2 : Heap := (List.range w'.heap.size).filterMap fun b => if w.heap.size ≤ b then (M' b).map fun o => (some b, o) else none
  have hmem : ∀ r o, (r, o) ∈ J2 → ∃ b, r = some b ∧ w.heap.size ≤ b ∧ M' b = some o := fun r o hm => by
    obtain ⟨b, _, hb⟩ := List.mem_filterMap.1 hm
    split at hb
    · rename_i hle
      cases e : M' b with
      | none => rw [e] at hb; cases hb
      | some u => rw [e] at hb; cases hb; exact ⟨b, rfl, hle, e⟩
    · cases hb
  have hids : (J2.filterMap Prod.fst).Nodup := by
    have e1 : J2.filterMap Prod.fst = (List.range w'.heap.size).filter fun b => decide (w.heap.size ≤ b) && (M' b).isSome := by
      simp only [J2, List.filterMap_filterMap]
      induction List.range w'.heap.size with
      | nil => rfl
      | cons b r ih =>
        rw [List.filterMap_cons, List.filter_cons, ih]
        by_cases hle : w.heap.size ≤ b
        · cases e : M' b <;> simp [hle, e]
        · simp [hle]
    rw [e1]
    exact List.nodup_range.filter _
  have hcl2 : Cls w1 I (J2 ++ (A.set j (r', o') ++ J)) w' := by
    refine hc1.moreG (fun b o hm => ?_) hids
    obtain ⟨c, e1, h1, h2⟩ := hmem _ _ hm
    cases e1
    refine ⟨himm _ _ h2, ?_, fun u hu => ?_⟩
    · cases hI : I b with
      | none => rfl
      | some z => have := lt_of_get (hcl.imm b z hI); omega
    · rcases List.mem_append.1 hu with hu | hu
      · obtain ⟨i, hi⟩ := List.mem_iff_getElem?.1 hu
        rw [List.getElem?_set] at hi
        by_cases hij : j = i
        · simp [hij, show i < A.length by omega] at hi
          have := (ho b hi.1).2
          rw [h2] at this; cases this
        · simp [hij] at hi
          have := lt_of_get (hcl.own b u (List.mem_append_left _ (List.mem_of_getElem? hi)))
          omega
      · have := lt_of_get (hcl.own b u (List.mem_append_right _ hu))
        omega
  have hn := hcl2.nodup
  have hnJ : ((J2 ++ J).filterMap Prod.fst).Nodup := by
    refine hn.sublist (List.Sublist.filterMap _ ?_)
    exact List.Sublist.append (List.Sublist.refl _) (List.sublist_append_right _ _)
  have hJJ : Ext (addJ I J) (addJ I (J2 ++ J)) := fun b o h2 => by
    rcases addJ_cases h2 with h2 | ⟨h3, h2⟩
    · exact Ext.addJ _ _ b o h2
    · unfold addJ; rw [h3]
      exact inJ_of_mem hnJ (List.mem_append_right _ h2)
  refine ⟨J2 ++ J, ⟨fun b o e => ?_, fun b o hne e => hJJ b o (hE.hbase b o hne e), hE.grow.trans hx, fun b h1 h2 => ?_⟩, hcl2.perm (List.perm_append_comm_assoc J2 _ J)⟩
  · have hlt : b < w'.heap.size := lt_of_get (himm b o e)
    cases em : M b with
    | some u =>
      have h1 := hx b u em
      rw [e] at h1; cases h1
      exact hJJ b o (hE.mi b o em)
    | none =>
      have hge := hnew b em (by rw [e]; exact fun h => by cases h)
      have hmJ : (some b, o) ∈ J2 := List.mem_filterMap.2 ⟨b, by simpa using hlt, by rw [if_pos hge, e]; rfl⟩
      have hI : I b = none := hcl2.disj b o (List.mem_append_left _ hmJ)
      show addJ I (J2 ++ J) b = some o
      unfold addJ; rw [hI]
      exact inJ_of_mem hnJ (List.mem_append_left _ hmJ)
  · by_cases hM : M b = none
    · exact Nat.le_trans hle (Nat.le_trans hcl.size (hnew b hM h1))
    · exact hE.new b hM h2

variable {Kc : Act → World → Prop} {ops : Array Oper} {lab : Lab} {ids : Nat → Option Nat} {l : List Nat} {i d : Nat} {o : Oper}
theorem mem_none {b : Nat} {ob : Obj} {j : Nat} (hcl : Cls w1 I (A ++ J) w) (hE : EnvX xh w0 M0 M (addJ I J)) (hj : A[j]? = some (some b, ob)) : M b = none := by
  cases e : M b with
  | none => rfl
  | some z =>
    exfalso
    have hm := List.mem_of_getElem? hj
    rcases addJ_cases (hE.mi b z e) with h | ⟨_, h⟩
    · rw [hcl.disj b ob (List.mem_append_left _ hm)] at h; cases h
    · have hn := hcl.nodup
      rw [List.filterMap_append, List.nodup_append] at hn
      exact hn.2.2 b (mem_ids.2 ⟨_, hm⟩) b (mem_ids.2 ⟨_, h⟩) rfl
/-- A call that is handed a block of the caller's own, and turns it. -/
theorem DL.callX {G : Type} {u : G → Value} {Q : G → Mem → Prop} {r' : G → Option Nat} {o' : G → Obj} {cl : Call} {fo : Operand} {g : FuncId} {caps args all : Array Value} {j : Nat} {r : Option Nat} {ob : Obj} (H' : Option Nat → Obj → Heap → Heap) (hle : w0.heap.size ≤ w1.heap.size) (hE : EnvX xh w0 M0 M (addJ I J)) (hH : H = A ++ J) (hj : A[j]? = some (r, ob))
    (hH' : ∀ r o J', A.set j (r, o) ++ J' = H' r o J') (he : args ++ caps = all)
    (hi : ops[i]? = some o) (hw : Wn ops S o true) (hd : o.dst = some d) (hN : Nat.blt d N = true) (hk : (lab i).1 = .actx) (ho : o.op = .call cl) (hcal : cl.callee = .value fo) (hf : ev S fo = some (.func (.func g) #[] caps)) (hargs : ∀ ρ, Val S ρ → cl.args.map ρ = args)
    (hbody : ∀ w, (callFunc g all).run P w = .ok (.enter g all) w) (hc : ∀ w, Cls w1 I H w → Imm M w → (∀ b, r = some b → w.heap[b]? = some ob) → (∀ b, r = some b → M b = none) → Calls P g all w (PostX u Q r' o' r M w))
    (h : ∀ g M' J', EnvX xh w0 M0 M' (addJ I J') → Ext M M' → Q g M' → DK P N w1 I Kc ops lab ids l ((d, u g) :: S) (H' (r' g) (o' g) J')) : DK P N w1 I Kc ops lab ids (i :: l) S H :=
  DL.actx (X := {x : G × Mem × Heap // EnvX xh w0 M0 x.2.1 (addJ I x.2.2) ∧ Ext M x.2.1 ∧ Q x.1 x.2.1}) (u := fun x => u x.1.1) (H' := fun x => A.set j (r' x.1.1, o' x.1.1) ++ x.1.2.2) hi hw hd hN hk
    (fun ρ hρ w hcl => .inr (.inr ⟨g, all, w, by
      subst he
      simp only [execOp, ho, resolve, hcal, hargs ρ hρ]
      rw [hρ _ _ hf]
      show (callFunc g (#[] ++ args ++ caps)).run P w = _
      simpa using hbody w, by
      subst hH
      refine (hc w hcl (hE.immJ hcl rfl) (fun b hb => ?_) (fun b hb => ?_)).mono ?_
      · exact hcl.own b ob (List.mem_append_left _ (by rw [← hb]; exact List.mem_of_getElem? hj))
      · rw [hb] at hj; exact mem_none hcl hE hj
      rintro en w' ⟨g, M', he, hQ, hx, hnew, himm, ho, hr, hg⟩
      obtain ⟨J', h1, h2⟩ := settle_newX hle hcl hE hj hx hnew himm ho hr hg
      exact ⟨⟨(g, M', J'), h1, hx, hQ⟩, he, h2⟩⟩))
    fun x => by rw [hH']; exact h x.1.1 x.1.2.1 x.1.2.2 x.2.1 x.2.2.1 x.2.2.2
end
end Go.HW
end

section
namespace Go.HW
open Go Go.RowKit
set_option linter.unusedVariables false
set_option linter.unusedSimpArgs false

/-! ### maps by texts -/
/-- Entries by texts, in the order of their making. -/
def kents : Nat → List (List UInt8 × Value) → List MapEntry
  | _, [] => []
  | n, (s, v) :: r => { key := str s, val := v, born := n } :: kents (n + 1) r
/-- A map's block. -/
def kobj (l : List (List UInt8 × Value)) : Obj := .map (kents 0 l).toArray l.length
def vfind (s : List UInt8) : List (List UInt8 × Value) → Option Value
  | [] => none
  | (u, v) :: r => if s == u then some v else vfind s r
/-- .. with one entry more, or another value in its entry -/
def vset (s : List UInt8) (v : Value) : List (List UInt8 × Value) → List (List UInt8 × Value)
  | [] => [(s, v)]
  | (u, x) :: r => if s == u then (s, v) :: r else (u, x) :: vset s v r
theorem kents_append : ∀ (l : List (List UInt8 × Value)) (n : Nat) (s : List UInt8) (v : Value), kents n (l ++ [(s, v)]) = kents n l ++ [{ key := str s, val := v, born := n + l.length }]
  | [], n, s, v => by simp [kents]
  | (b, u) :: l, n, s, v => by simp [kents, kents_append l (n + 1) s v]; omega
theorem bytes_beq (s u : List UInt8) : ((⟨s.toArray⟩ : ByteArray) == ⟨u.toArray⟩) = (s == u) := by
  show (s.toArray == u.toArray) = _
  simp
theorem sameNow_str (s u : List UInt8) : Instr.sameNow .string (str s) (str u) = some (s == u) := by
  show some _ = _
  rw [bytes_beq]
theorem findNow_kents (s : List UInt8) : ∀ (l : List (List UInt8 × Value)) (n i : Nat), ∃ r, Instr.findNow .string (str s) (kents n l) i = some r ∧ r.map (·.2) = vfind s l ∧
    ((r = none ∧ ∀ v, vset s v l = l ++ [(s, v)]) ∨ ∃ k v, r = some (i + k, v) ∧ l[k]? = some (s, v) ∧ ∀ v', vset s v' l = l.set k (s, v'))
  | [], n, i => ⟨none, rfl, rfl, .inl ⟨rfl, fun _ => rfl⟩⟩
  | (u, x) :: l, n, i => by
    obtain ⟨r, h1, h2, h3⟩ := findNow_kents s l (n + 1) (i + 1)
    cases h : (s == u) with
    | true =>
      refine ⟨some (i, x), ?_, by simp [vfind, h], .inr ⟨0, x, rfl, ?_, fun v' => by simp [vset, h]⟩⟩
      · simp only [kents, Instr.findNow, sameNow_str, h]
      · have := eq_of_beq h
        subst this; rfl
    | false =>
      refine ⟨r, ?_, by simp [vfind, h, h2], ?_⟩
      · simp only [kents, Instr.findNow, sameNow_str, h]; exact h1
      · rcases h3 with ⟨h3, h4⟩ | ⟨k, v, h3, h4, h5⟩
        · exact .inl ⟨h3, fun v => by simp [vset, h, h4]⟩
        · exact .inr ⟨k + 1, v, by rw [h3, Nat.add_assoc, Nat.add_comm 1], by simpa using h4, fun v' => by simp [vset, h, h5]⟩
section
variable {P : Program} {o : Oper} {S : Slots} {w0 : World} {I : Nat → Option Obj} {H : Heap}
theorem run_findKey_str {t : TypeId} (hu : ∀ w, (underlying t).run P w = .ok .string w) (s : List UInt8) (l : List (List UInt8 × Value)) (w : World) : ∃ r, (Instr.findKey t (str s) (kents 0 l)).run P w = .ok r w ∧ r.map (·.2) = vfind s l ∧
    ((r = none ∧ ∀ v, vset s v l = l ++ [(s, v)]) ∨ ∃ k v, r = some (k, v) ∧ l[k]? = some (s, v) ∧ ∀ v', vset s v' l = l.set k (s, v')) := by
  obtain ⟨r, h1, h2, h3⟩ := findNow_kents s l 0 0
  refine ⟨r, ?_, h2, by simpa using h3⟩
  unfold Instr.findKey
  refine (run_of_bind (hu w)).trans ?_
  rw [h1]; rfl
theorem run_checkKey_str {t : TypeId} (hu : ∀ w, (underlying t).run P w = .ok .string w) (s : List UInt8) (e : Bool) (w : World) : (Instr.checkKey e 10000 t (str s)).run P w = .ok () w := by
  unfold Instr.checkKey
  exact (run_of_bind (hu w)).trans rfl
theorem run_lookupS {t kt e : TypeId} {z : Value} {b : Nat} {w : World} {l : List (List UInt8 × Value)} (hm : ∀ w, (underlying t).run P w = .ok (.map kt e) w) (hk : ∀ w, (underlying kt).run P w = .ok .string w) (hz : ∀ w, (zeroValue e).run P w = .ok z w) (hb : w.heap[b]? = some (kobj l)) (s : List UInt8) (ok : Bool) :
    (Instr.lookup t (.map (some b)) (str s) ok).run P w = .ok (if ok then .tuple #[(vfind s l).getD z, .bool (vfind s l).isSome] else (vfind s l).getD z) w := by
  obtain ⟨r, h1, h2, -⟩ := run_findKey_str (P := P) hk s l w
  unfold Instr.lookup
  refine (run_of_bind (hm w)).trans ?_
  refine (run_of_bind (run_getObj hb)).trans ?_
  refine (run_of_bind (x := Pure.pure (kents 0 l).toArray) (a := (kents 0 l).toArray) (w' := w) rfl).trans ?_
  refine (run_of_bind (run_checkKey_str hk s _ w)).trans ?_
  refine (run_of_bind h1).trans ?_
  rw [← h2]
  cases r with
  | none => exact (run_of_bind (hz w)).trans rfl
  | some p => rfl
theorem i_lookupS {t kt e : TypeId} {z v : Value} {x y : Operand} {b : Nat} {s : List UInt8} {l : List (List UInt8 × Value)} (hm : ∀ w, (underlying t).run P w = .ok (.map kt e) w) (hk : ∀ w, (underlying kt).run P w = .ok .string w) (hz : ∀ w, (zeroValue e).run P w = .ok z w) (hb : I b = some (kobj l)) (hv : (vfind s l).getD z = v) (ho : o.op = .lookup t x y false) (hx : ev S x = some (.map (some b))) (hy : ev S y = some (str s)) : FImm P o I S v := fun ρ hρ w hi => by
  simp only [execOp, ho, hρ _ _ hx, hρ _ _ hy]
  refine val_run ?_
  rw [run_lookupS hm hk hz (hi b _ hb), hv]; rfl
theorem i_lookupSOk {t kt e : TypeId} {z v : Value} {q : Bool} {x y : Operand} {b : Nat} {s : List UInt8} {l : List (List UInt8 × Value)} (hm : ∀ w, (underlying t).run P w = .ok (.map kt e) w) (hk : ∀ w, (underlying kt).run P w = .ok .string w) (hz : ∀ w, (zeroValue e).run P w = .ok z w) (hb : I b = some (kobj l)) (hv : (vfind s l).getD z = v) (hq : (vfind s l).isSome = q) (ho : o.op = .lookup t x y true) (hx : ev S x = some (.map (some b))) (hy : ev S y = some (str s)) : FImm P o I S (.tuple #[v, .bool q]) := fun ρ hρ w hi => by
  simp only [execOp, ho, hρ _ _ hx, hρ _ _ hy]
  refine val_run ?_
  rw [run_lookupS hm hk hz (hi b _ hb), hv, hq]; rfl
theorem FImm.quiet {M : Mem} {v : Value} (h : FImm P o M S v) (hM : ∀ w, Cls w0 I H w → Imm M w) : FQuiet P o w0 I S H v := fun ρ hρ w hc => .inl (h ρ hρ w (hM w hc))
/-- .. of a map by numbers that stays -/
theorem i_lookupM {t kt e : TypeId} {k : IntKind} {x y : Operand} {b : Nat} {a : Int} {l : List (Int × Value)} {z v : Value} (hm : ∀ w, (underlying t).run P w = .ok (.map kt e) w) (hk : ∀ w, (underlying kt).run P w = .ok (.int k) w) (hz : ∀ w, (zeroValue e).run P w = .ok z w)
    (hb : I b = some (mobj k l)) (hv : (mfind a l).getD z = v) (ho : o.op = .lookup t x y false) (hx : ev S x = some (.map (some b))) (hy : ev S y = some (.int k a)) : FImm P o I S v := fun ρ hρ w hi => by
  have h := f_lookup (P := P) (o := o) (S := S) (w0 := w) (I := fun _ => none) (H := [(some b, mobj k l)]) (j := 0) hm hk hz rfl ho hx hy ρ hρ w ⟨rfl, rfl, rfl, Nat.le_refl _, fun _ _ h => (by cases h), fun c u h => (by simp only [List.mem_singleton, Prod.mk.injEq, Option.some.injEq] at h; rw [h.1, h.2]; exact hi b _ hb), fun _ _ _ => rfl, by simp⟩
  rcases h with h | ⟨f, args, h, _⟩
  · rw [← hv]; exact h
  · simp only [execOp, ho, hρ _ _ hx, hρ _ _ hy] at h
    exfalso
    have h2 : ((Instr.lookup t (.map (some b)) (.int k a) false).bind fun v => Sem.pure (Next.value v)).run P w = .ok (.enter f args) w := h
    rw [Sem.run_bind'] at h2
    cases h3 : (Instr.lookup t (.map (some b)) (.int k a) false).run P w <;> rw [h3] at h2 <;> cases h2
theorem i_lookupMOk {t kt e : TypeId} {k : IntKind} {x y : Operand} {b : Nat} {a : Int} {l : List (Int × Value)} {z v : Value} {q : Bool} (hm : ∀ w, (underlying t).run P w = .ok (.map kt e) w) (hk : ∀ w, (underlying kt).run P w = .ok (.int k) w) (hz : ∀ w, (zeroValue e).run P w = .ok z w)
    (hb : I b = some (mobj k l)) (hv : (mfind a l).getD z = v) (hq : (mfind a l).isSome = q) (ho : o.op = .lookup t x y true) (hx : ev S x = some (.map (some b))) (hy : ev S y = some (.int k a)) : FImm P o I S (.tuple #[v, .bool q]) := fun ρ hρ w hi => by
  have h := f_lookupOk (P := P) (o := o) (S := S) (w0 := w) (I := fun _ => none) (H := [(some b, mobj k l)]) (j := 0) hm hk hz rfl ho hx hy ρ hρ w ⟨rfl, rfl, rfl, Nat.le_refl _, fun _ _ h => (by cases h), fun c u h => (by simp only [List.mem_singleton, Prod.mk.injEq, Option.some.injEq] at h; rw [h.1, h.2]; exact hi b _ hb), fun _ _ _ => rfl, by simp⟩
  rcases h with h | ⟨f, args, h, _⟩
  · rw [← hv, ← hq]; exact h
  · simp only [execOp, ho, hρ _ _ hx, hρ _ _ hy] at h
    exfalso
    have h2 : ((Instr.lookup t (.map (some b)) (.int k a) true).bind fun v => Sem.pure (Next.value v)).run P w = .ok (.enter f args) w := h
    rw [Sem.run_bind'] at h2
    cases h3 : (Instr.lookup t (.map (some b)) (.int k a) true).run P w <;> rw [h3] at h2 <;> cases h2

theorem set_kents : ∀ (l : List (List UInt8 × Value)) (n k : Nat) (s : List UInt8) (v v' : Value), l[k]? = some (s, v) → (kents n l).modify k (fun e => { e with key := str s, val := v' }) = kents n (l.set k (s, v'))
  | [], n, k, s, v, v', h => by simp at h
  | (u, x) :: l, n, 0, s, v, v', h => by simp [kents]
  | (u, x) :: l, n, k + 1, s, v, v', h => by
    simp only [kents, List.modify_succ_cons, List.set_cons_succ]
    rw [set_kents l (n + 1) k s v v' (by simpa using h)]
theorem kents_key : ∀ (l : List (List UInt8 × Value)) (n k : Nat) (s : List UInt8) (v : Value), l[k]? = some (s, v) → ((kents n l)[k]?).map (·.key) = some (str s)
  | [], n, k, s, v, h => by simp at h
  | (u, x) :: l, n, 0, s, v, h => by simp at h; simp [kents, h.1]
  | (u, x) :: l, n, k + 1, s, v, h => by
    simp only [kents, List.getElem?_cons_succ]
    exact kents_key l (n + 1) k s v (by simpa using h)
theorem run_updateS {t kt e : TypeId} {v : Value} {b : Nat} {w : World} {l : List (List UInt8 × Value)} (hm : ∀ w, (underlying t).run P w = .ok (.map kt e) w) (hk : ∀ w, (underlying kt).run P w = .ok .string w) (hb : w.heap[b]? = some (kobj l)) (s : List UInt8) :
    ∃ w', (Instr.mapUpdate t (.map (some b)) (str s) v).run P w = .ok () w' ∧ w'.os = w.os ∧ w'.tape = w.tape ∧ w'.output = w.output ∧ w'.heap.size = w.heap.size ∧ w'.heap[b]? = some (kobj (vset s v l)) ∧ ∀ d, d ≠ b → w'.heap[d]? = w.heap[d]? := by
  obtain ⟨r, h1, h2, h3⟩ := run_findKey_str (P := P) hk s l w
  rcases h3 with ⟨rfl, h4⟩ | ⟨k, u, rfl, h4, h5⟩
  · obtain ⟨w', g1, g2, g3, g4, g5, g6, g7⟩ := run_setObj (P := P) (es' := (kents 0 l).toArray.push { key := str s, val := v, born := l.length }) (c' := l.length + 1) hb
    refine ⟨w', ?_, g2, g3, g4, g5, ?_, g7⟩
    · unfold Instr.mapUpdate
      refine (run_of_bind (hm w)).trans ?_
      refine (run_of_bind (run_getObj hb)).trans ?_
      refine (run_of_bind (run_checkKey_str hk s _ w)).trans ?_
      exact (run_of_bind h1).trans g1
    · rw [g6, h4]
      simp [kobj, kents_append]
  · obtain ⟨w', g1, g2, g3, g4, g5, g6, g7⟩ := run_setObj (P := P) (es' := (kents 0 l).toArray.modify k (fun e => { e with key := str s, val := v })) (c' := l.length) hb
    refine ⟨w', ?_, g2, g3, g4, g5, ?_, g7⟩
    · unfold Instr.mapUpdate
      refine (run_of_bind (hm w)).trans ?_
      refine (run_of_bind (run_getObj hb)).trans ?_
      refine (run_of_bind (run_checkKey_str hk s _ w)).trans ?_
      refine (run_of_bind h1).trans ?_
      have hkey : (((kents 0 l).toArray[k]?).map (·.key)).getD (str s) = str s := by
        have := kents_key l 0 k s u h4
        simp only [List.getElem?_toArray, this, Option.getD_some]
      have hst : (Instr.keyThatStays ((((kents 0 l).toArray[k]?).map (·.key)).getD (str s)) (str s)).run P w = .ok (str s) w := by
        rw [hkey]
        unfold Instr.keyThatStays
        have : Instr.sameBits 10000 (str s) (str s) = true := by
          show ((⟨s.toArray⟩ : ByteArray) == ⟨s.toArray⟩) = true
          rw [bytes_beq]; simp
        rw [this]; rfl
      exact (run_of_bind hst).trans g1
    · rw [g6, h5]
      have := set_kents l 0 k s u v h4
      simp [kobj, ← this]
/-- An own map is turned. -/
theorem f_updateS {t kt e : TypeId} {x y z : Operand} {b j : Nat} {s : List UInt8} {v : Value} {l : List (List UInt8 × Value)} (hm : ∀ w, (underlying t).run P w = .ok (.map kt e) w) (hk : ∀ w, (underlying kt).run P w = .ok .string w)
    (hH : H[j]? = some (some b, kobj l)) (ho : o.op = .mapUpdate t x y z) (hx : ev S x = some (.map (some b))) (hy : ev S y = some (str s)) (hz : ev S z = some v) : FPut P o w0 I S H (H.set j (some b, kobj (vset s v l))) := fun ρ hρ w hc => by
  simp only [execOp, ho, hρ _ _ hx, hρ _ _ hy, hρ _ _ hz]
  have hb := hc.own b _ (List.mem_of_getElem? hH)
  obtain ⟨w', g1, g2, g3, g4, g5, g6, g7⟩ := run_updateS (P := P) (v := v) hm hk hb s
  exact ⟨w', (run_of_bind (a := ()) (w' := w') g1).trans rfl, hc.setObj hH g2 g3 g4 g5 g6 g7⟩
theorem f_makeMapS {t : TypeId} (ho : o.op = .makeMap t none) : FNew P o S (kobj []) (fun b => .map (some b)) := fun ρ hρ w => by
  simp only [execOp, ho]
  rfl
theorem p_field {T : TypeId} {x : Operand} {vs : Array Value} {i : Nat} {v : Value} (h : ∀ w, (Instr.field T (.agg vs) i).run P w = .ok v w) (ho : o.op = .field T x i) (hx : ev S x = some (.agg vs)) : FPure P o S v := fun ρ hρ w => by
  simp only [execOp, ho, hρ _ _ hx]
  exact val_run (h w)
end

/-! #### what they stand for -/
/-- Entries, and what they stand for, one by one. -/
def KRep {α : Type} (sh : Shape α) (M : Mem) : List (List UInt8 × Value) → List (List UInt8 × α) → Prop
  | [], [] => True
  | p :: l, q :: K => p.1 = q.1 ∧ (∃ cs : List Value, p.2 = .agg cs.toArray ∧ sh.rep M cs q.2) ∧ KRep sh M l K
  | _, _ => False
theorem KRep.mono {α : Type} {sh : Shape α} {M M' : Mem} (he : Ext M M') : ∀ {l : List (List UInt8 × Value)} {K : List (List UInt8 × α)}, KRep sh M l K → KRep sh M' l K
  | [], [], _ => trivial
  | _ :: _, _ :: _, ⟨h1, ⟨cs, h2, h3⟩, h4⟩ => ⟨h1, ⟨cs, h2, sh.mono he h3⟩, h4.mono he⟩
  | [], _ :: _, h => h.elim
  | _ :: _, [], h => h.elim
theorem KRep.len {α : Type} {sh : Shape α} {M : Mem} : ∀ {l : List (List UInt8 × Value)} {K : List (List UInt8 × α)}, KRep sh M l K → l.length = K.length
  | [], [], _ => rfl
  | _ :: _, _ :: _, ⟨_, _, h4⟩ => by simp [h4.len]
  | [], _ :: _, h => h.elim
  | _ :: _, [], h => h.elim
theorem KRep.get {α : Type} {sh : Shape α} {M : Mem} : ∀ {l : List (List UInt8 × Value)} {K : List (List UInt8 × α)} {i : Nat} {q : List UInt8 × α}, KRep sh M l K → K[i]? = some q → ∃ cs : List Value, l[i]? = some (q.1, .agg cs.toArray) ∧ sh.rep M cs q.2
  | [], [], i, q, _, h => by simp at h
  | (s, v) :: _, _ :: _, 0, q, ⟨h1, ⟨cs, h2, h3⟩, _⟩, h => by
    simp at h; subst h
    simp only at h1 h2
    subst h1; subst h2
    exact ⟨cs, rfl, h3⟩
  | _ :: _, _ :: _, i + 1, q, ⟨_, _, h4⟩, h => by simpa using h4.get (by simpa using h)
  | [], _ :: _, _, _, h, _ => h.elim
  | _ :: _, [], _, _, h, _ => h.elim
def kfind {α : Type} (s : List UInt8) : List (List UInt8 × α) → Option α
  | [] => none
  | (u, t) :: r => if s == u then some t else kfind s r
def kset {α : Type} (s : List UInt8) (t : α) : List (List UInt8 × α) → List (List UInt8 × α)
  | [] => [(s, t)]
  | (u, x) :: r => if s == u then (s, t) :: r else (u, x) :: kset s t r
theorem KRep.find {α : Type} {sh : Shape α} {M : Mem} (s : List UInt8) : ∀ {l : List (List UInt8 × Value)} {K : List (List UInt8 × α)}, KRep sh M l K → (vfind s l = none ∧ kfind s K = none) ∨ ∃ (cs : List Value) (t : α), vfind s l = some (.agg cs.toArray) ∧ kfind s K = some t ∧ sh.rep M cs t
  | [], [], _ => .inl ⟨rfl, rfl⟩
  | (u, v) :: _, (u', t) :: _, ⟨h1, ⟨cs, h2, h3⟩, h4⟩ => by
    simp only at h1 h2 h3
    subst h1; subst h2
    unfold vfind kfind
    cases h : (s == u) with
    | true => exact .inr ⟨cs, t, rfl, rfl, h3⟩
    | false => exact h4.find s
  | [], _ :: _, h => h.elim
  | _ :: _, [], h => h.elim
theorem KRep.set {α : Type} {sh : Shape α} {M : Mem} {cs : List Value} {t : α} (s : List UInt8) (hr : sh.rep M cs t) : ∀ {l : List (List UInt8 × Value)} {K : List (List UInt8 × α)}, KRep sh M l K → KRep sh M (vset s (.agg cs.toArray) l) (kset s t K)
  | [], [], _ => ⟨rfl, ⟨cs, rfl, hr⟩, trivial⟩
  | (u, v) :: _, (u', x) :: _, ⟨h1, h2, h4⟩ => by
    simp only at h1 h2
    subst h1
    unfold vset kset
    cases h : (s == u) with
    | true => exact ⟨rfl, ⟨cs, rfl, hr⟩, h4⟩
    | false => exact ⟨rfl, h2, h4.set s hr⟩
  | [], _ :: _, h => h.elim
  | _ :: _, [], h => h.elim
/-- This block's object stands for just this map, in this order. -/
def KE {α : Type} (sh : Shape α) (M : Mem) (o : Obj) (K : List (List UInt8 × α)) : Prop := ∃ l, o = kobj l ∧ KRep sh M l K
theorem KE.mono {α : Type} {sh : Shape α} {M M' : Mem} {o : Obj} {K : List (List UInt8 × α)} (h : KE sh M o K) (he : Ext M M') : KE sh M' o K := by
  obtain ⟨l, h1, h2⟩ := h; exact ⟨l, h1, h2.mono he⟩
/-- In this block lies this map, in whatever order. -/
def KMap {α : Type} (sh : Shape α) (M : Mem) (b : Nat) (K : List (List UInt8 × α)) : Prop := ∃ o K', M b = some o ∧ KE sh M o K' ∧ (K'.map Prod.fst).Nodup ∧ K'.Perm K
theorem KMap.mono {α : Type} {sh : Shape α} {M M' : Mem} {b : Nat} {K : List (List UInt8 × α)} (h : KMap sh M b K) (he : Ext M M') : KMap sh M' b K := by
  obtain ⟨o, K', h1, h2, h3, h4⟩ := h
  exact ⟨o, K', he b o h1, h2.mono he, h3, h4⟩
theorem kfind_mem {α : Type} {s : List UInt8} {t : α} : ∀ {K : List (List UInt8 × α)}, (K.map Prod.fst).Nodup → (kfind s K = some t ↔ (s, t) ∈ K)
  | [], _ => by simp [kfind]
  | (u, x) :: K, hn => by
    simp only [List.map_cons, List.nodup_cons] at hn
    unfold kfind
    by_cases h : s = u
    · subst h
      simp only [beq_self_eq_true, if_true, Option.some.injEq, List.mem_cons, Prod.mk.injEq, true_and]
      refine ⟨fun e => .inl e.symm, fun e => ?_⟩
      rcases e with e | e
      · exact e.symm
      · exact absurd (List.mem_map.2 ⟨_, e, rfl⟩) hn.1
    · have : (s == u) = false := by simpa using h
      rw [this]
      simp only [Bool.false_eq_true, if_false, List.mem_cons, Prod.mk.injEq, h, false_and, false_or]
      exact kfind_mem hn.2
theorem kfind_perm {α : Type} {K K' : List (List UInt8 × α)} (hn : (K'.map Prod.fst).Nodup) (hp : K'.Perm K) (s : List UInt8) : kfind s K' = kfind s K := by
  have hn2 : (K.map Prod.fst).Nodup := (hp.map Prod.fst).nodup_iff.1 hn
  cases h : kfind s K with
  | some t => rw [kfind_mem hn2] at h; rw [kfind_mem hn]; exact hp.mem_iff.2 h
  | none =>
    cases h' : kfind s K' with
    | none => rfl
    | some t =>
      rw [kfind_mem hn] at h'
      have := (kfind_mem hn2).2 (hp.mem_iff.1 h')
      rw [h] at this; cases this
end Go.HW
end

section
namespace Go.HW
open Go Go.RowKit
set_option linter.unusedVariables false
set_option linter.unusedSimpArgs false

/-! ### code in the frame of a round, or with a mark among the deferred calls -/
/-- The wide fence; in a loop's round, or not. -/
abbrev FR (r : Option Nat) : Fence := { Fence.wide with round := r }
theorem callsFR {r : Option Nat} {n : Nat} {P : Program} {f : FuncId} {args : Array Value} {w : World} {R : Ending → World → Prop} (h : Calls P f args w R) : CallsIn (FR r) n P f args w R := callsIn_wide.2 h
theorem FR_dep {r : Option Nat} {n : Nat} : (FR r).depth.isSome = true → 1 ≤ n := fun h => by cases h
def wd (D : List Deferred) (a : Act) : Act := { a with defers := D }
theorem wd_put (D : List Deferred) (a : Act) (d : Option Nat) (v : Value) : (wd D a).put d v = wd D (a.put d v) := by cases d <;> rfl
theorem wd_eval (D : List Deferred) (a : Act) : (wd D a).eval = a.eval := funext fun x => by cases x <;> rfl
theorem wd_nil {N : Nat} {S : Slots} {a : Act} (h : Agree N S a) : wd [] a = a := by
  obtain ⟨h1, _⟩ := h
  cases a; simp only at h1; subst h1; rfl
def noDefer (ops : Array Oper) : Bool := ops.all fun o => match o.op with
  | .defer _ => false
  | _ => true
theorem noDefer_at {ops : Array Oper} (h : noDefer ops = true) {i : Nat} {o : Oper} (hi : ops[i]? = some o) : ∀ c, o.op ≠ .defer c := fun c e => by
  unfold noDefer at h
  rw [Array.all_eq_true] at h
  obtain ⟨hlt, hk⟩ := Array.getElem?_eq_some_iff.1 hi
  have := h i hlt
  rw [hk, e] at this
  cases this

section
variable {P : Program} {ops : Array Oper} {w0 : World} {I : Mem} {lab : Lab} {ids : Nat → Option Nat} {rd : Option Nat} {n : Nat} {D : List Deferred}
theorem wpOpIn_of_stepD (hnd : noDefer ops = true) {i : Nat} {K : Act → Heap → Prop} {K' : Act → World → Prop} {Q : Exit → Act → World → Prop} {a : Act} {H : Heap} {w : World} (hc : Cls w0 I H w)
    (hK : ∀ a H w, Cls w0 I H w → K a H → K' (wd D a) w) (h : stepD P ops w0 I lab ids i K a H) : wpOpIn (FR rd) n P ops Q i K' (wd D a) w := by
  have h := h ⟨w, hc⟩
  unfold wpOpIn
  split
  · rename_i ho; rw [ho] at h; exact hK _ _ _ hc h
  · rename_i o ho
    rw [ho] at h
    obtain ⟨e, hd, ha⟩ := h
    have hsem : (o.semAt (FR rd).round (wd D a).eval) = execOp a.eval o := by rw [Oper.semAt_eq _ _ _ (noDefer_at hnd ho), wd_eval]
    rcases hd with ⟨hw, hd⟩ | ⟨hw, rfl⟩
    · rw [if_pos (show Region.wanted o (yielded ops (wd D a).tmps) = true from hw)]
      refine ⟨fun _ _ => trivial, ?_⟩
      rw [hsem]
      cases e with
      | val v =>
        have hq : QuietRun P o a w v := by
          rcases hd with ⟨_, hd⟩ | ⟨_, hd⟩ | ⟨_, x, b, ob, _, _, hm, hd⟩
          · exact .inl (hd w hc.imm)
          · exact hd w hc
          · exact .inl (hd w (hc.own _ _ hm))
        rcases hq with hq | ⟨g, args, hq, hcalls⟩
        · rw [hq]; show K' ((wd D a).put o.dst v) w; rw [wd_put]; exact hK _ _ _ hc ha
        · rw [hq, Oper.uponIn_enter]
          exact ⟨FR_dep, (callsFR hcalls).mono fun e w' ⟨he, hb⟩ => by subst he; show K' ((wd D a).put o.dst v) w'; rw [wd_put]; exact hK _ _ _ (hc.below hb) ha⟩
      | new ob mk => rw [hd.2 w]; show K' ((wd D a).put o.dst _) _; rw [wd_put]; exact hK _ _ _ (hc.alloc ob) (ha _ hc.size)
      | put H' =>
        obtain ⟨w', hr, hc'⟩ := hd.2.1 w hc
        rw [hr]; show K' ((wd D a).put o.dst _) _; rw [wd_put]; exact hK _ _ _ hc' ha
      | act X v H' =>
        rcases hd.2 w hc with ⟨x, w', hr, hc'⟩ | ⟨x, w', hr, hv, hc'⟩ | ⟨g, args, w1, hr, hcalls⟩
        · rw [hr]; show K' ((wd D a).put o.dst _) _; rw [wd_put]; exact hK _ _ _ hc' (ha x)
        · rw [hr]
          have h1 := ha x
          rw [hv] at h1
          show K' ((wd D a).put o.dst _) _; rw [wd_put]
          exact hK _ _ _ hc' h1
        · rw [hr, Oper.uponIn_enter]
          exact ⟨FR_dep, (callsFR hcalls).mono fun e w' ⟨x, he, hc'⟩ => by subst he; show K' ((wd D a).put o.dst _) w'; rw [wd_put]; exact hK _ _ _ hc' (ha x)⟩
    · rw [if_neg (show ¬ Region.wanted o (yielded ops (wd D a).tmps) = true by show ¬ Region.wanted o (yielded ops a.tmps) = true; rw [hw]; exact Bool.false_ne_true)]
      refine ⟨fun _ _ => trivial, ?_⟩
      rw [wd_put]; exact hK _ _ _ hc ha
theorem wpOpsIn_of_listD (hnd : noDefer ops = true) {Q : Act → Heap → Prop} {Q' : Exit → Act → World → Prop} (hQ : ∀ a H w, Cls w0 I H w → Q a H → Q' .normal (wd D a) w) :
    ∀ (l : List Nat) (a : Act) (H : Heap) (w : World), Cls w0 I H w → listD P ops w0 I lab ids Q l a H → wpOpsIn (FR rd) n P ops Q' l (wd D a) w
  | [], _, _, _, hc, h => hQ _ _ _ hc h
  | i :: l, _, _, _, hc, h => by
    rw [wpOpsIn_cons]
    exact wpOpIn_of_stepD hnd hc (fun a' H' w' hc' h' => wpOpsIn_of_listD hnd hQ l a' H' w' hc' h') h
theorem wpAnyIn_of_anyD (hnd : noDefer ops = true) {Q : Act → Heap → Prop} {Q' : Exit → Act → World → Prop} (hQ : ∀ a H w, Cls w0 I H w → Q a H → Q' .normal (wd D a) w) :
    ∀ (k : Nat) (listed : Array Bool) (a : Act) (H : Heap) (w : World), Cls w0 I H w → anyD P ops w0 I lab ids Q k listed a H → wpAnyIn (FR rd) n P .any ops Q' k listed (wd D a) w
  | 0, _, _, _, _, hc, h => ⟨(h ⟨_, hc⟩).1, hQ _ _ _ hc (h ⟨_, hc⟩).2⟩
  | k + 1, _, _, _, _, hc, h => ⟨fun h0 => hQ _ _ _ hc (h.1 h0), fun i hi => wpOpIn_of_stepD hnd hc (fun a' H' w' hc' h' => wpAnyIn_of_anyD hnd hQ k _ a' H' w' hc' h') (h.2 i hi)⟩
end

/-- A code, from slots and a class of worlds; 'rd': the loop whose round it stands in; 'D': what is deferred. -/
def CI (rd : Option Nat) (P : Program) (D : List Deferred) (N : Nat) (w0 : World) (I : Mem) (c : Code) (Q : Exit → Act → World → Prop) (S : Slots) (H : Heap) : Prop :=
  ∀ a w, Agree N S a → Cls w0 I H w → c.wpIn (FR rd) 3 P Q (wd D a) w
section
variable {rd : Option Nat} {P : Program} {D : List Deferred} {N : Nat} {w0 : World} {I : Mem} {Q : Exit → Act → World → Prop} {S : Slots} {H : Heap} {ops : Array Oper} {c x y : Code}
theorem CI.seq (h : CI rd P D N w0 I x (Exit.then (y.wpIn (FR rd) 3 P Q) Q) S H) : CI rd P D N w0 I (.seq x y) Q S H := fun a w ha hc => wpIn_seq (h a w ha hc)
theorem CI.block {id : Nat} (h : CI rd P D N w0 I c (Exit.inBlock id Q) S H) : CI rd P D N w0 I (.block id c) Q S H := fun a w ha hc => wpIn_block (h a w ha hc)
theorem CI.cond_true {z : Operand} {p : Bool} (hc : ev S z = some (.bool p)) (hp : p = true) (h : CI rd P D N w0 I x Q S H) : CI rd P D N w0 I (.cond z x y) Q S H := fun a w ha hcl => wpIn_cond_true (by rw [wd_eval, ha.val _ _ hc, hp]) (h a w ha hcl)
theorem CI.cond_false {z : Operand} {p : Bool} (hc : ev S z = some (.bool p)) (hp : p = false) (h : CI rd P D N w0 I y Q S H) : CI rd P D N w0 I (.cond z x y) Q S H := fun a w ha hcl => wpIn_cond_false (by rw [wd_eval, ha.val _ _ hc, hp]) (h a w ha hcl)
theorem CI.skip (h : ∀ a w, Agree N S a → Cls w0 I H w → Q .normal (wd D a) w) : CI rd P D N w0 I .skip Q S H := fun a w ha hc => wpIn_skip (h a w ha hc)
theorem CI.ret (h : ∀ a w, Agree N S a → Cls w0 I H w → Q .ret (wd D a) w) : CI rd P D N w0 I .ret Q S H := fun a w ha hc => wpIn_ret (h a w ha hc)
theorem CI.perm {H' : Heap} (hp : H.Perm H') (h : CI rd P D N w0 I c Q S H') : CI rd P D N w0 I c Q S H := fun a w ha hc => h a w ha (hc.perm hp)
theorem CI.weak {S' : Slots} (h : CI rd P D N w0 I c Q S' H) (hs : Sub S' S) : CI rd P D N w0 I c Q S H := fun a w ha hc => h a w (ha.sub hs) hc
theorem CI.fewer {H' : Heap} (hs : H'.Sublist H) (h : CI rd P D N w0 I c Q S H') : CI rd P D N w0 I c Q S H := fun a w ha hc => h a w ha (hc.fewer hs)
/-- .. what a region's end asks: -/
abbrev NQ (D : List Deferred) (Q : Exit → Act → World → Prop) : Act → World → Prop := fun a w => Q .normal (wd D a) w
theorem CI.rg {id : Nat} (l : List Nat) (ll : List (Kd × Option Nat)) (hc : c = .region id (opsOf c) false) (hl : List.range (opsOf c).size = l) (hnd : noDefer (opsOf c) = true) (h : DK P N w0 I (NQ D Q) (opsOf c) (labOf ll) (fun _ => none) l S H) : CI rd P D N w0 I c Q S H := fun a w ha hcl => by
  rw [hc]
  refine wpIn_region ?_
  rw [hl]
  exact wpOpsIn_of_listD hnd (fun a' H' w' hc' h' => h' w' hc') _ _ _ _ hcl (h a ha)
theorem CI.rgD {id : Nat} (l m : List Nat) (ll : List (Kd × Option Nat)) (hc : c = .region id (opsOf c) true) (hm : P.follows .mixedOrders = true) (hnd : noDefer (opsOf c) = true) (hB : okP (opsOf c) (labOf ll) l m = true)
    (h : ∀ w1, Later w0 w1 → (∀ z y b, idsOf H z = some b → idsOf H y = some b → z = y) → (∀ z b, idsOf H z = some b → b < w1.heap.size) → DK P N w1 I (NQ D Q) (opsOf c) (labOf ll) (idsOf H) l S H) : CI rd P D N w0 I c Q S H := fun a w ha hcl => by
  rw [hc]
  have hB := okD_of_okP hB
  simp only [Bool.and_eq_true] at hB
  obtain ⟨⟨hs, hl⟩, hok⟩ := hB
  have hl' : l.length = (opsOf c).size := Nat.eq_of_beq_eq_true hl
  refine wpIn_region_any hm ?_
  rw [← hl']
  have hc' : Cls w I H { w with drawn := w.drawn + 1 } := ⟨rfl, rfl, rfl, Nat.le_refl _, hcl.imm, hcl.own, hcl.disj, hcl.nodup⟩
  have hL := h w ⟨hcl.os, hcl.tape, hcl.output, hcl.size⟩ (ids_inj hcl.nodup) (ids_lt hcl) a ha
  exact wpAnyIn_of_anyD hnd (fun a' H' w' hc' h' => h' w' hc') _ _ _ _ _ hc' (anyD_of_list Q_mono ⟨w, hcl.imm⟩ hs l _ a H (fun j oj _ hl => by rw [getD_replicate_false] at hl; cases hl) (by rw [hl']; exact hok) hL)
/-- .. where just these blocks have a number -/
theorem CI.rgDL {id : Nat} (L l m : List Nat) (ll : List (Kd × Option Nat)) (hc : c = .region id (opsOf c) true) (hm : P.follows .mixedOrders = true) (hnd : noDefer (opsOf c) = true) (hB : okP (opsOf c) (labOf ll) l m = true)
    (h : ∀ w1, Later w0 w1 → DK P N w1 I (NQ D Q) (opsOf c) (labOf ll) (fun z => if L.contains z then idsOf H z else none) l S H) : CI rd P D N w0 I c Q S H := fun a w ha hcl => by
  rw [hc]
  have hB := okD_of_okP hB
  simp only [Bool.and_eq_true] at hB
  obtain ⟨⟨hs, hl⟩, hok⟩ := hB
  have hl' : l.length = (opsOf c).size := Nat.eq_of_beq_eq_true hl
  refine wpIn_region_any hm ?_
  rw [← hl']
  have hc' : Cls w I H { w with drawn := w.drawn + 1 } := ⟨rfl, rfl, rfl, Nat.le_refl _, hcl.imm, hcl.own, hcl.disj, hcl.nodup⟩
  have hL := h w ⟨hcl.os, hcl.tape, hcl.output, hcl.size⟩ a ha
  exact wpAnyIn_of_anyD hnd (fun a' H' w' hc' h' => h' w' hc') _ _ _ _ _ hc' (anyD_of_list Q_mono ⟨w, hcl.imm⟩ hs l _ a H (fun j oj _ hl => by rw [getD_replicate_false] at hl; cases hl) (by rw [hl']; exact hok) hL)
/-- the end of a region, and on -/
theorem DK.nil {lab : Lab} {ids : Nat → Option Nat} {Kc : Act → World → Prop} {w1 : World} (h : ∀ a w, Agree N S a → Cls w1 I H w → Kc a w) : DK P N w1 I Kc ops lab ids [] S H := fun a ha w hc => h a w ha hc
theorem DK.next {lab : Lab} {ids : Nat → Option Nat} {w1 : World} {Q2 : Exit → Act → World → Prop} (hl : Later w0 w1) (hQ : Q .normal = y.wpIn (FR rd) 3 P Q2) (h : CI rd P D N w0 I y Q2 S H) : DK P N w1 I (NQ D Q) ops lab ids [] S H := fun a ha w hc => by
  show Q .normal (wd D a) w
  rw [hQ]; exact h a w ha (hc.later hl)
theorem DK.next0 {lab : Lab} {ids : Nat → Option Nat} {Q2 : Exit → Act → World → Prop} (hQ : Q .normal = y.wpIn (FR rd) 3 P Q2) (h : CI rd P D N w0 I y Q2 S H) : DK P N w0 I (NQ D Q) ops lab ids [] S H := DK.next ⟨rfl, rfl, rfl, Nat.le_refl _⟩ hQ h
theorem wpOpsIn_pre {lab : Lab} {ids : Nat → Option Nat} (hnd : noDefer ops = true) (rest : List Nat) : ∀ (pre : List Nat) (a : Act) (H : Heap) (w : World), Cls w0 I H w → listD P ops w0 I lab ids (fun a H => ∀ w, Cls w0 I H w → wpOpsIn (FR rd) 3 P ops Q rest (wd D a) w) pre a H → wpOpsIn (FR rd) 3 P ops Q (pre ++ rest) (wd D a) w
  | [], _, _, _, hc, h => h _ hc
  | i :: l, _, _, _, hc, h => by
    rw [List.cons_append, wpOpsIn_cons]
    exact wpOpIn_of_stepD hnd hc (fun a' H' w' hc' h' => wpOpsIn_pre hnd rest l a' H' w' hc' h') h
/-- a region with an operation amid it that is told apart -/
theorem CI.rgY {id : Nat} (pre rest : List Nat) (ll : List (Kd × Option Nat)) (hc : c = .region id (opsOf c) false) (hl : List.range (opsOf c).size = pre ++ rest) (hnd : noDefer (opsOf c) = true) (h : DK P N w0 I (fun a w => wpOpsIn (FR rd) 3 P (opsOf c) Q rest (wd D a) w) (opsOf c) (labOf ll) (fun _ => none) pre S H) : CI rd P D N w0 I c Q S H := fun a w ha hcl => by
  rw [hc]
  refine wpIn_region ?_
  rw [hl]
  exact wpOpsIn_pre hnd rest _ _ _ _ hcl (h a ha)
theorem wpOps_of_DK {lab : Lab} {ids : Nat → Option Nat} {l : List Nat} (hnd : noDefer ops = true) (h : DK P N w0 I (NQ D Q) ops lab ids l S H) : ∀ a w, Agree N S a → Cls w0 I H w → wpOpsIn (FR rd) 3 P ops Q l (wd D a) w := fun a w ha hc =>
  wpOpsIn_of_listD hnd (fun a' H' w' hc' h' => h' w' hc') _ _ _ _ hc (h a ha)

/-! #### a call of yield -/
/-- What a round does, as the one sees it who calls yield: 'E s' becomes 'E t', for a 't' with 'p t'; 'b t' is handed back. -/
def RoundTurn {σ : Type} (P : Program) (l : Nat) (I : Mem) (x : Value) (E : Heap) (p : σ → Prop) (b : σ → Bool) (E' : σ → Heap) : Prop :=
  ∀ (w0 : World) (I' : Mem) (A : Heap) (w : World), Ext I I' → Cls w0 I' (E ++ A) w → ∃ fn tmps assign body, (Instr.yield l #[x]).run P w = .ok (.round l fn tmps assign body) w ∧
    RoundIn (FR none) 2 P l fn tmps assign body w fun e w' => ∃ t, p t ∧ e = .returned (.bool (b t)) ∧ Cls w0 I' (E' t ++ A) w'
theorem wpOp_yield {σ : Type} {l : Nat} {I I' : Mem} {x : Value} {E A : Heap} {p : σ → Prop} {b : σ → Bool} {E' : σ → Heap} {i d : Nat} {o : Oper} {rest : List Nat} {cl : Call} {fo : Operand} (hi : ops[i]? = some o) (hg : o.guard = none) (hd : o.dst = some d) (hN : Nat.blt d N = true) (ho : o.op = .call cl) (hcal : cl.callee = .value fo) (hf : ev S fo = some (.func (.yield l) #[] #[])) (hargs : ∀ ρ, Val S ρ → cl.args.map ρ = #[x])
    (hY : RoundTurn P l I x E p b E') (he : Ext I I') (hH : H.Perm (E ++ A)) (h : ∀ t, p t → ∀ a w, Agree N ((d, .bool (b t)) :: S) a → Cls w0 I' (E' t ++ A) w → wpOpsIn (FR none) 3 P ops Q rest (wd D a) w) :
    ∀ a w, Agree N S a → Cls w0 I' H w → wpOpsIn (FR none) 3 P ops Q (i :: rest) (wd D a) w := fun a w ha hc => by
  have hc := hc.perm hH
  obtain ⟨fn, tmps, assign, body, hy, hR⟩ := hY w0 I' A w he hc
  unfold wpOpsIn
  rw [hi]
  simp only [Region.wanted, hg, if_true]
  refine ⟨fun _ _ => trivial, ?_⟩
  rw [Oper.semAt_eq _ _ _ (fun c hx => by rw [ho] at hx; cases hx), wd_eval]
  have e : (execOp a.eval o).run P w = .ok (.round l fn tmps assign body) w := by
    simp only [execOp, ho, resolve, hcal, hargs _ ha.val]
    rw [ha.val _ _ hf]
    exact hy
  rw [e, Oper.uponIn_round]
  refine ⟨FR_dep, hR.mono ?_⟩
  rintro en w' ⟨t, hp, rfl, hc'⟩
  show wpOpsIn _ _ _ _ _ _ _ _
  rw [wd_put, hd]
  exact h t hp _ _ (ha.put (by simpa [Nat.blt_eq] using hN) _) hc'
end
end Go.HW
end
