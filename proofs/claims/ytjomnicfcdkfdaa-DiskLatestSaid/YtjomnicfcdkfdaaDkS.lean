import Derived.Test.YtjomnicfcdkfdaaDkL3
namespace Go.Proofs.Ytjomnicfcdkfdaa
open Go Go.HW Go.RowKit
set_option linter.unusedVariables false
set_option linter.unusedSimpArgs false

/-! ### steps -/
structure Stp where
  kind : Int
  n : Int
  m : Int
  fill : Int
  picks : List Int
section
variable {N : Nat} {S : Slots} {w0 w1 : World} {I : Mem} {H : Heap} {Q : Exit → Act → World → Prop} {Qn : Act → Heap → Prop} {ops : Array Oper} {lab : Lab} {ids : Nat → Option Nat} {l : List Nat} {i d : Nat} {o : Oper} {v : Value} {X : Type} {u : X → Value} {cl : Call} {fo : Operand} {g : FuncId} {args : Array Value}
theorem cls_less {I' : Mem} {w : World} (he : Ext I I') (h : Cls w0 I' H w) : Cls w0 I H w := ⟨h.os, h.tape, h.output, h.size, fun b o e => h.imm b o (he b o e), h.own, (fun b o hm => by
  have := h.disj b o hm
  cases hI : I b with
  | none => rfl
  | some z => rw [he b z hI] at this; cases this), h.nodup⟩
/-- what is not turned any more stays -/
theorem C.settleF {c : Code} {E R : Heap} (hH : H = E ++ R) (h : ∀ I', Ext I I' → (∀ b o, (some b, o) ∈ E → I' b = some o) → CW N w0 I' c Q S R) : CW N w0 I c Q S H := fun a w ha hc => by
  subst hH
  have hnE : (E.filterMap Prod.fst).Nodup := hc.nodup.sublist ((List.sublist_append_left E R).filterMap _)
  refine h (addJ I E) (Ext.addJ _ _) (fun b o hm => ?_) a w ha ((hc.perm (List.perm_append_comm)).settle)
  unfold addJ
  rw [hc.disj b o (List.mem_append_left _ hm)]
  exact inJ_of_mem hnE hm
theorem DW.c01k {E' : X → Heap} (hi : ops[i]? = some o) (hg : o.guard = none) (hd : o.dst = some d) (hN : Nat.blt d N = true) (hk : (lab i).1 = .keep) (hc : Turn I g args [] u E') (hbody : ∀ w, (callFunc g args).run Try.prog w = .ok (.enter g args) w) (ho : o.op = .call cl) (hcal : cl.callee = .value fo) (hf : ev S fo = some (.func (.func g) #[] #[])) (hargs : ∀ ρ, Val S ρ → cl.args.map ρ = args)
    (h : ∀ x, DD N w0 I ops lab ids Qn l ((d, u x) :: S) (E' x ++ H)) : DD N w0 I ops lab ids Qn (i :: l) S H :=
  DW.keep (fun x p hp => List.mem_append_right _ hp) hi hg hd hN hk (f_callX ho hcal hf hargs hbody (fun w hcl => hc.at w0 w hcl)) h
end
end Go.Proofs.Ytjomnicfcdkfdaa
