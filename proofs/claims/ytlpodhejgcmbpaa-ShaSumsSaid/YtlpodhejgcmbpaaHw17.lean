import Derived.Test.YtlpodhejgcmbpaaHw16
namespace Go.HW
open Go Go.RowKit
set_option linter.unusedVariables false
set_option linter.unusedSimpArgs false

/-! ### pointers to structs and arrays -/
section
variable {P : Program} {o : Oper} {S : Slots} {w0 : World} {I : Nat → Option Obj} {H : Heap}
theorem p_nilCheck {x : Operand} {b off : Nat} (ho : o.op = .nilCheck x) (hx : ev S x = some (ptr b off)) : FPure P o S (ptr b off) := fun ρ hρ w => by
  simp only [execOp, ho, hρ _ _ hx]; rfl
theorem idxO (off : Nat) (i : Int) : off + i.toNat * 1 = off + i.toNat := by omega
theorem p_ixO {t e : TypeId} {x y : Operand} {b off n : Nat} {k : IntKind} {i : Int} (hu : ∀ w, (underlying t).run P w = .ok (.array n e) w) (hs : ∀ w, (sizeOf e).run P w = .ok 1 w) (h0 : 0 ≤ i) (h1 : i < n)
    (ho : o.op = .indexAddr t x y) (hx : ev S x = some (ptr b off)) (hy : ev S y = some (.int k i)) : FPure P o S (ptr b (off + i.toNat)) := by
  have := p_indexAddr (P := P) hu hs h0 h1 ho hx hy
  rwa [idxO] at this
theorem enc_atO {k : IntKind} {xs : List Int} {n off m : Nat} {i : Int} (h : xs.length = n) (h0 : 0 ≤ i) (h1 : i < m) (h2 : off + m ≤ n) : (enc k xs)[off + i.toNat]? = some (.int k (xs.getD (off + i.toNat) 0)) := enc_get k (by omega)
theorem lt_natO {i : Int} {n off m : Nat} {xs : List Int} (h : xs.length = n) (h0 : 0 ≤ i) (h1 : i < m) (h2 : off + m ≤ n) : off + i.toNat < xs.length := by omega
theorem i_loadBoxO {t t' : TypeId} {x : Operand} {b off : Nat} {c : Array Value} {v : Value} {z : Nat × Nat} (hb : I b = some (.cells c t' z)) (hv : c[off]? = some v) (ha : ∀ w, (isAgg t).run P w = .ok false w) (ho : o.op = .load t x) (hx : ev S x = some (ptr b off)) : FImm P o I S v := fun ρ hρ w hi => by
  simp only [execOp, ho, hρ _ _ hx]
  refine val_run ?_
  show ((isAgg t).bind _).run P w = _
  rw [run_of_bind (ha w)]
  exact run_load (by rw [cell_of (hi b _ hb), hv])
theorem i_loadSub {t t' : TypeId} {x : Operand} {b off n : Nat} {k : IntKind} {xs : List Int} {z : Nat × Nat} (hb : I b = some (.cells (enc k xs) t' z)) (hn : off + n ≤ xs.length) (ha : ∀ w, (isAgg t).run P w = .ok true w) (hs : ∀ w, (sizeOf t).run P w = .ok n w) (ho : o.op = .load t x) (hx : ev S x = some (ptr b off)) : FImm P o I S (.agg (enc k ((xs.drop off).take n))) := fun ρ hρ w hi => by
  simp only [execOp, ho, hρ _ _ hx]
  refine val_run ?_
  show ((isAgg t).bind _).run P w = _
  rw [run_of_bind (ha w)]
  show ((sizeOf t).bind _).run P w = _
  rw [run_of_bind (hs w)]
  have hl : (((xs.drop off).take n).map (Value.int k)).length = n := by simp; omega
  refine (run_of_bind (run_loadCells (b := b) (off := off) (vs := ((xs.drop off).take n).map (Value.int k)) hl (fun j q hj => ?_))).trans rfl
  rw [cell_of (hi b _ hb)]
  have hjn : j < n := by
    rcases Nat.lt_or_ge j n with h | h
    · exact h
    · rw [List.getElem?_eq_none (by omega)] at hj; cases hj
  rw [List.getElem?_map, List.getElem?_take_of_lt hjn, List.getElem?_drop] at hj
  obtain ⟨y, hy, rfl⟩ := Option.map_eq_some_iff.1 hj
  simp [enc, hy]
theorem len_sub {xs : List Int} {N off n : Nat} (h : xs.length = N) (hn : off + n ≤ N) : ((xs.drop off).take n).length = n := by simp; omega
theorem le_len {xs : List Int} {N m : Nat} (h : xs.length = N) (hn : m ≤ N) : m ≤ xs.length := by omega
theorem p_nilPtr {x : Operand} (ho : o.op = .assign x) (hx : ev S x = some (.pointer none)) : FPure P o S (.pointer none) := p_assign ho hx
end
end Go.HW
