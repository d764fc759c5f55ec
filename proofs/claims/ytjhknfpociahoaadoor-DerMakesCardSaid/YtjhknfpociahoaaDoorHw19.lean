import Derived.Test.YtjhknfpociahoaaDoorHw18
namespace Go.HW
open Go Go.RowKit
set_option linter.unusedVariables false
set_option linter.unusedSimpArgs false
section
variable {P : Program} {o : Oper} {S : Slots} {w0 : World} {I M M0 : Mem} {H A J : Heap} {R : Ending → World → Prop} {N : Nat} {f : FuncId} {K : List Item} {ops : Array Oper} {lab : Lab} {ids : Nat → Option Nat} {l : List Nat} {i d : Nat}

/-- A call whose result stays; it may be turned with new blocks. -/
theorem DL.callFf {G : Type} {u : G → Value} {Q : G → Mem → Prop} {cl : Call} {fo : Operand} {g : FuncId} {caps args all : Array Value} {w1 : World} (H' : Heap → Heap) (hle : w0.heap.size ≤ w1.heap.size) (hE : Env w0 M0 M (addJ I J)) (hH : H = A ++ J) (hH' : ∀ J', A ++ J' = H' J') (he : args ++ caps = all)
    (hi : ops[i]? = some o) (hw : Wn ops S o true) (hd : o.dst = some d) (hN : Nat.blt d N = true) (hk : (lab i).1 = .free) (ho : o.op = .call cl) (hcal : cl.callee = .value fo) (hf : ev S fo = some (.func (.func g) #[] caps)) (hargs : ∀ ρ, Val S ρ → cl.args.map ρ = args)
    (hbody : ∀ w, (callFunc g all).run P w = .ok (.enter g all) w) (hc : ∀ w, Cls w1 I H w → Imm M w → Calls P g all w (PostF u Q M w))
    (h : ∀ g M' J', Env w0 M0 M' (addJ I J') → Ext M M' → Q g M' → DL P f R N w1 I K ops lab ids l ((d, u g) :: S) (H' J')) : DL P f R N w1 I K ops lab ids (i :: l) S H :=
  DL.free (X := {x : G × Mem × Heap // Env w0 M0 x.2.1 (addJ I x.2.2) ∧ Ext M x.2.1 ∧ Q x.1 x.2.1 ∧ ∀ p ∈ J, p ∈ x.2.2}) (u := fun x => u x.1.1) (H' := fun x => A ++ x.1.2.2) (fun x p hp => by
      rw [hH] at hp
      rcases List.mem_append.1 hp with hp | hp
      · exact List.mem_append_left _ hp
      · exact List.mem_append_right _ (x.2.2.2.2 p hp)) hi hw hd hN hk
    (fun E ρ hρ w hcl => .inr (.inr ⟨g, all, w, by
      subst he
      simp only [execOp, ho, resolve, hcal, hargs ρ hρ]
      rw [hρ _ _ hf]
      show (callFunc g (#[] ++ args ++ caps)).run P w = _
      simpa using hbody w, by
      have hcl0 : Cls w1 I H w := hcl.fewer (List.sublist_append_right _ _)
      refine (hc w hcl0 (hE.immJ hcl0 hH)).mono fun en w' ⟨g, M', he, hQ, hx, hnew, himm, hbel⟩ => ?_
      subst hH
      have hcl' : Cls w1 I ((E ++ A) ++ J) w := by rw [List.append_assoc]; exact hcl
      obtain ⟨J', h1, h2, h3⟩ := settle_new hle hcl' hE hx hnew himm hbel
      exact ⟨⟨(g, M', J'), h1, hx, hQ, h3⟩, he, by rw [List.append_assoc] at h2; exact h2⟩⟩))
    fun x => by rw [hH']; exact h x.1.1 x.1.2.1 x.1.2.2 x.2.1 x.2.2.1 x.2.2.2.1

theorem env_new {w w1 : World} {b : Nat} {ob : Obj} (hle : w1.heap.size ≤ w0.heap.size) (hE : Env w1 M0 M (addJ I J)) (hb : w0.heap.size ≤ b) (hc : Cls w0 I ((some b, ob) :: (A ++ J)) w) :
    Env w1 M0 (addJ M [(some b, ob)]) (addJ I ((some b, ob) :: J)) ∧ Ext M (addJ M [(some b, ob)]) ∧ addJ M [(some b, ob)] b = some ob := by
  have hIb : I b = none := hc.disj b ob List.mem_cons_self
  have hn := hc.nodup
  have hnJ : ((((some b, ob) : Option Nat × Obj) :: J).filterMap Prod.fst).Nodup := by
    refine hn.sublist (List.Sublist.filterMap _ ?_)
    exact (List.sublist_append_right _ _).cons_cons _
  have hJJ : Ext (addJ I J) (addJ I ((some b, ob) :: J)) := fun c u h2 => by
    rcases addJ_cases h2 with h2 | ⟨h3, h2⟩
    · exact Ext.addJ _ _ c u h2
    · unfold addJ; rw [h3]
      exact inJ_of_mem hnJ (List.mem_cons_of_mem _ h2)
  have hnew : addJ I ((some b, ob) :: J) b = some ob := by unfold addJ; rw [hIb]; exact inJ_of_mem hnJ List.mem_cons_self
  have hMb : M b = none := by
    cases hm : M b with
    | none => rfl
    | some u =>
      have h1 := hE.mi b u hm
      rcases addJ_cases h1 with h1 | ⟨_, h1⟩
      · rw [hIb] at h1; cases h1
      · exfalso
        have : (((some b, ob) : Option Nat × Obj) :: J).filterMap Prod.fst = b :: J.filterMap Prod.fst := rfl
        rw [this, List.nodup_cons] at hnJ
        exact hnJ.1 (mem_ids.2 ⟨u, h1⟩)
  refine ⟨⟨fun c u e => ?_, hE.base.trans hJJ, hE.grow.trans (Ext.addJ _ _), fun c h1 h2 => ?_⟩, Ext.addJ _ _, by unfold addJ; rw [hMb]; simp [inJ]⟩
  · rcases addJ_cases e with e | ⟨_, e⟩
    · exact hJJ c u (hE.mi c u e)
    · simp only [List.mem_singleton, Prod.mk.injEq, Option.some.injEq] at e
      obtain ⟨rfl, rfl⟩ := e
      exact hnew
  · cases e : addJ M [(some b, ob)] c with
    | none => exact absurd e h1
    | some u =>
      rcases addJ_cases e with e | ⟨_, e⟩
      · exact hE.new c (by rw [e]; exact fun h => by cases h) h2
      · simp only [List.mem_singleton, Prod.mk.injEq, Option.some.injEq] at e
        obtain ⟨rfl, rfl⟩ := e
        omega
theorem DL.newRowSA {w1 : World} {α : Type} {s : Shape α} {zs : List α} {cells : List Value} {e n : Nat} (H' : Heap → Heap) (hle : w1.heap.size ≤ w0.heap.size) (hE : Env w1 M0 M (addJ I J)) (hH : H = A ++ J) (hH' : ∀ J', A ++ J' = H' J') (hz : zs.length = n) (hm : n ≤ maxLen) (hl : cells.length = n * s.n) (hr : ∀ i x, zs[i]? = some x → s.rep M (chunk cells s.n i) x)
    (hi : ops[i]? = some o) (hw : Wn ops S o true) (hd : o.dst = some d) (hN : Nat.blt d N = true) (hk : (lab i).1 = .alloc) (hp : FNew P o S (.cells cells.toArray e) (fun b => .slice (some ⟨b, 0, none⟩) n n))
    (h : ∀ v M' J', Env w1 M0 M' (addJ I J') → Ext M M' → RowS s M' v zs → DL P f R N w0 I K ops lab ids l ((d, v) :: S) (H' J')) : DL P f R N w0 I K ops lab ids (i :: l) S H :=
  DL.new hi hw hd hN hk hp fun b hb => DL.inh fun ⟨w, hc⟩ => by
    rw [hH] at hc ⊢
    obtain ⟨h1, h2, h3⟩ := env_new hle hE hb hc
    refine DL.perm (H := A ++ ((some b, .cells cells.toArray e) :: J)) (List.perm_middle) ?_
    rw [hH']
    refine h _ _ _ h1 h2 ?_
    have ho : OwnS s M (.slice (some ⟨b, 0, none⟩) n n) cells.toArray zs := ⟨cells, by
      subst hz
      exact OwnV.fresh (Nat.le_refl _) hm (by simpa using hl) (by rw [List.take_of_length_le]; simp [hl]) hl, hr⟩
    exact ho.stays (e := e) h2 (fun b' hb' => by cases hb'; exact h3)
end
end Go.HW
