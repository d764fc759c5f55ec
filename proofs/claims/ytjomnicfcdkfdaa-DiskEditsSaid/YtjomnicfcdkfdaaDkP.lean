import Derived.Test.YtjomnicfcdkfdaaDkL5
namespace Go.Proofs.Ytjomnicfcdkfdaa
open Go Go.HW Go.RowKit
set_option linter.unusedVariables false
set_option linter.unusedSimpArgs false
section
variable {N : Nat} {S : Slots} {w0 : World} {I : Mem} {H : Heap} {Q : Exit → Act → World → Prop} {ops : Array Oper} {l : List Nat} {i d : Nat} {o : Oper} {v : Value} {X : Type} {u : X → Value} {cl : Call} {fo : Operand} {g : FuncId} {args : Array Value}
theorem W.cq (hi : ops[i]? = some o) (hw : Wn ops S o true) (hd : o.dst = some d) (hN : Nat.blt d N = true) (hc : ∀ w, Cls w0 I H w → Calls Try.prog g args w fun e w' => ∃ x, e = .returned (u x) ∧ Below w.heap.size w w') (hbody : ∀ w, (callFunc g args).run Try.prog w = .ok (.enter g args) w) (ho : o.op = .call cl) (hcal : cl.callee = .value fo) (hf : ev S fo = some (.func (.func g) #[] #[])) (hargs : ∀ ρ, Val S ρ → cl.args.map ρ = args)
    (h : ∀ x, WW N w0 I ops l Q ((d, u x) :: S) H) : WW N w0 I ops (i :: l) Q S H :=
  W.callX (H' := fun _ => H) hi hw hd hN ho hcal hf hargs hbody (fun w hcl => (hc w hcl).mono fun e w' ⟨x, h1, h2⟩ => ⟨x, h1, hcl.below h2⟩) h
end
theorem hasD_in {s : Dk} {n : Int} (h0 : 0 ≤ n) (h1 : n < s.n) : hasD s n = true := by unfold hasD; exact decide_eq_true ⟨h0, h1⟩
theorem pairE {α β : Type} (p : α × β) : p = (p.1, p.2) := rfl
theorem sameK_refl (s : Dk) : sameK s s = true := by simp [sameK, sameP]
theorem rdX {s : Dk} (x : Dx s) (n : Int) : (rd s n).length = 512 := rd_len x.2.hs (late_full x) n
end Go.Proofs.Ytjomnicfcdkfdaa
