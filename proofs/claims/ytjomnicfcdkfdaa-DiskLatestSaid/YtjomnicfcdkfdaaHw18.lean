import Derived.Test.YtjomnicfcdkfdaaHw17
import Derived.Deep.AppendSrc
import Derived.Laws.CopyRow
namespace Go.HW
open Go Go.RowKit
set_option linter.unusedVariables false
set_option linter.unusedSimpArgs false

/-! ### append(x, make([]T, m)...) -/
section
variable {P : Program} (w : World)
end
section
variable {P : Program} {o : Oper} {S : Slots} {w0 : World} {I : Nat → Option Obj} {H : Heap}
variable {R : Ending → World → Prop} {N : Nat} {f : FuncId} {K : List Item} {ops : Array Oper} {lab : Lab} {ids : Nat → Option Nat} {l : List Nat} {i d : Nat}
theorem DL.newO {cells : List Value} {e n : Nat} (hn : cells.length = n) (hm : n ≤ maxLen) (hi : ops[i]? = some o) (hw : Wn ops S o true) (hd : o.dst = some d) (hN : Nat.blt d N = true) (hk : (lab i).1 = .alloc)
    (hp : FNew P o S (.cells cells.toArray e) (fun b => .slice (some ⟨b, 0, none⟩) n n)) (h : ∀ v cur, OwnV v cur 1 n cells → DL P f R N w0 I K ops lab ids l ((d, v) :: S) ((v.ownBlock, .cells cur e (0, 0)) :: H)) : DL P f R N w0 I K ops lab ids (i :: l) S H :=
  DL.new hi hw hd hN hk hp fun b hb => h (.slice (some ⟨b, 0, none⟩) n n) cells.toArray (OwnV.fresh (Nat.le_refl _) hm (by simp [hn]) (by rw [List.take_of_length_le]; simp [hn]) (by omega))
/-- a part of a block's cells -/
theorem f_loadSubA {t t' : TypeId} {x : Operand} {b j n off : Nat} {c : Array Value} {vs : List Value} (ha : ∀ w, (isAgg t).run P w = .ok true w) (hs : ∀ w, (sizeOf t).run P w = .ok n w) (hH : H[j]? = some (some b, .cells c t' (0, 0))) (hl : vs.length = n) (hv : (c.toList.drop off).take n = vs)
    (ho : o.op = .load t x) (hx : ev S x = some (ptr b off)) : FQuiet P o w0 I S H (.agg vs.toArray) := fun ρ hρ w hc => .inl (by
  simp only [execOp, ho, hρ _ _ hx]
  refine val_run ?_
  have hb := hc.own b _ (List.mem_of_getElem? hH)
  show ((isAgg t).bind _).run P w = _
  rw [run_of_bind (ha w)]
  show ((sizeOf t).bind _).run P w = _
  rw [run_of_bind (hs w)]
  refine (run_of_bind (run_loadCells (b := b) (off := off) (vs := vs) hl (fun k v hk => ?_))).trans rfl
  rw [cell_of hb]
  rw [← hv] at hk
  have hkn : k < n := by
    rcases Nat.lt_or_ge k n with h | h
    · exact h
    · rw [List.getElem?_eq_none (by simp; omega)] at hk; cases hk
  rw [List.getElem?_take_of_lt hkn, List.getElem?_drop] at hk
  simpa using hk)
theorem b_loadSubA {t t' : TypeId} {x : Operand} {b n off : Nat} {c : Array Value} {vs : List Value} (ha : ∀ w, (isAgg t).run P w = .ok true w) (hs : ∀ w, (sizeOf t).run P w = .ok n w) (hl : vs.length = n) (hv : (c.toList.drop off).take n = vs)
    (ho : o.op = .load t x) (hx : ev S x = some (ptr b off)) : ∀ ρ, Val S ρ → ∀ w, w.heap[b]? = some (.cells c t' (0, 0)) → (execOp ρ o).run P w = .ok (.value (.agg vs.toArray)) w := fun ρ hρ w hb => by
  simp only [execOp, ho, hρ _ _ hx]
  refine val_run ?_
  show ((isAgg t).bind _).run P w = _
  rw [run_of_bind (ha w)]
  show ((sizeOf t).bind _).run P w = _
  rw [run_of_bind (hs w)]
  refine (run_of_bind (run_loadCells (b := b) (off := off) (vs := vs) hl (fun k v hk => ?_))).trans rfl
  rw [cell_of hb]
  rw [← hv] at hk
  have hkn : k < n := by
    rcases Nat.lt_or_ge k n with h | h
    · exact h
    · rw [List.getElem?_eq_none (by simp; omega)] at hk; cases hk
  rw [List.getElem?_take_of_lt hkn, List.getElem?_drop] at hk
  simpa using hk
theorem OwnS.V {α : Type} {s : Shape α} {M : Mem} {v : Value} {cur : Array Value} {xs : List α} (h : OwnS s M v cur xs) : ∃ cs, OwnV v cur s.n xs.length cs := by obtain ⟨cs, h1, _⟩ := h; exact ⟨cs, h1⟩
end
end Go.HW
