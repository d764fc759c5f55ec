import Derived.Test.YtfbogkhgfaibbaaDoorHw15
import Derived.Maps.RangeRun
namespace Go.HW
open Go Go.RowKit
set_option linter.unusedVariables false
set_option linter.unusedSimpArgs false

/-! ### going over a map of numbers, in whatever order -/
/-- The iterator's block. -/
def iobj (bm n : Nat) (seen : Array Nat) : Obj := .mapIter (some bm) n seen n

section
variable {Kc : Act → World → Prop} {xh : Option Nat} {P : Program} {o : Oper} {S : Slots} {w0 : World} {I : Mem} {H : Heap} {R : Ending → World → Prop} {N : Nat} {f : FuncId} {K : List Item} {ops : Array Oper} {lab : Lab} {ids : Nat → Option Nat} {l : List Nat} {i d : Nat}
theorem DL.range {t kt et : TypeId} {x : Operand} {bm j : Nat} {k : IntKind} {m : List (Int × Value)} (hm : ∀ w, (underlying t).run P w = .ok (.map kt et) w) (hH : H[j]? = some (some bm, mobj k m)) (hi : ops[i]? = some o) (hw : Wn ops S o true) (hd : o.dst = some d) (hN : Nat.blt d N = true) (hk : (lab i).1 = .keep)
    (ho : o.op = .range t x) (hx : ev S x = some (.map (some bm))) (h : ∀ b, DK P N w0 I Kc ops lab ids l ((d, ptr b 0) :: S) ((some b, iobj bm m.length #[]) :: H)) : DK P N w0 I Kc ops lab ids (i :: l) S H :=
  DL.keep (X := Nat) (u := fun b => ptr b 0) (H' := fun b => (some b, iobj bm m.length #[]) :: H) (fun _ p hp => List.mem_cons_of_mem _ hp) hi hw hd hN hk (fun ρ hρ w hc => .inl ⟨w.heap.size, w.alloc (iobj bm m.length #[]), by
    simp only [execOp, ho, hρ _ _ hx]
    refine val_run ?_
    unfold Instr.range
    have hb := hc.own bm _ (List.mem_of_getElem? hH)
    refine (run_of_bind (hm w)).trans ?_
    refine (run_of_bind (run_getObj hb)).trans ?_
    rfl, hc.alloc _⟩) h
end

/-! ### shorter words -/
section
variable {Kc : Act → World → Prop} {P : Program} {f : FuncId} {R : Ending → World → Prop} {N : Nat} {w0 : World} {I : Mem} {k : List Item} {S : Slots} {H : Heap}
theorem TT.rg {c : Code} {id : Nat} (l : List Nat) (ll : List (Kd × Option Nat)) (hc : c = .region id (opsOf c) false) (hl : List.range (opsOf c).size = l) (h : DL P f R N w0 I k (opsOf c) (labOf ll) (fun _ => none) l S H) : TT P f R N w0 I (.code c :: k) S H := by
  have h1 := TT.region (id := id) (n := (opsOf c).size) ll rfl (hl ▸ h)
  rwa [← hc] at h1
theorem TT.rgD {c : Code} {id : Nat} (l m : List Nat) (ll : List (Kd × Option Nat)) (hc : c = .region id (opsOf c) true) (hm : P.follows .mixedOrders = true) (hB : okP (opsOf c) (labOf ll) l m = true)
    (h : ∀ w1, Later w0 w1 → (∀ z y b, idsOf H z = some b → idsOf H y = some b → z = y) → (∀ z b, idsOf H z = some b → b < w1.heap.size) → DL P f R N w1 I k (opsOf c) (labOf ll) (idsOf H) l S H) : TT P f R N w0 I (.code c :: k) S H := by
  have h1 := TT.regionD (id := id) l m ll hm hB h
  rwa [← hc] at h1
end
end Go.HW
