import Derived.Test.YtfbogkhgfaibbaaDoorHw3
namespace Go.HW
open Go Go.RowKit
set_option linter.unusedVariables false
set_option linter.unusedSimpArgs false

/-! ### memory -/

theorem run_of_bind {α β : Type} {P : Program} {x : Sem α} {f : α → Sem β} {w w' : World} {a : α} (h : x.run P w = .ok a w') : (x.bind f).run P w = (f a).run P w' := by
  rw [Sem.run_bind', h]; rfl

theorem val_run {P : Program} {x : Sem Value} {w w' : World} {v : Value} (h : x.run P w = .ok v w') : (x.bind fun v => Sem.pure (Next.value v)).run P w = .ok (.value v) w' := by
  rw [run_of_bind h]; rfl

/-- Numbers of one kind as cells. -/
def enc (k : IntKind) (xs : List Int) : Array Value := (xs.map (Value.int k)).toArray
theorem enc_size (k : IntKind) (xs : List Int) : (enc k xs).size = xs.length := by simp [enc]
theorem add_none (b o n : Nat) : (⟨b, o, none⟩ : Addr).add n = ⟨b, o + n, none⟩ := by
  unfold Addr.add
  split
  · subst_vars; rfl
  · rfl

/-- A pointer at a cell of a block. -/
abbrev ptr (b off : Nat) : Value := .pointer (some ⟨b, off, none⟩)

theorem cell_of {w : World} {b : Nat} {c : Array Value} {t : TypeId} {z : Nat × Nat} (h : w.heap[b]? = some (.cells c t z)) (off : Nat) : w.cell? ⟨b, off, none⟩ = c[off]? := by
  simp [World.cell?, h]
theorem frozen_of {w : World} {b : Nat} {c : Array Value} {t : TypeId} (h : w.heap[b]? = some (.cells c t (0, 0))) (off : Nat) : w.frozen? ⟨b, off, none⟩ = false := by
  simp [World.frozen?, h]

theorem run_load {P : Program} {w : World} {a : Addr} {v : Value} (h : w.cell? a = some v) : (load a).run P w = .ok v w := by
  simp only [load, Sem.run, h]

theorem run_loadCellsFrom {P : Program} {w : World} {b off : Nat} : ∀ (n i : Nat) (acc : Array Value) (vs : List Value), vs.length = n → (∀ j v, vs[j]? = some v → w.cell? ⟨b, off + (i + j), none⟩ = some v) →
    (loadCellsFrom ⟨b, off, none⟩ i n acc).run P w = .ok (acc ++ vs.toArray) w
  | 0, i, acc, vs, hl, _ => by
    have : vs = [] := List.length_eq_zero_iff.1 hl
    subst this; simp [loadCellsFrom]
  | n + 1, i, acc, vs, hl, h => by
    match vs, hl with
    | v :: vs, hl =>
      simp only [loadCellsFrom]
      have h0 : (load ((⟨b, off, none⟩ : Addr).add i)).run P w = .ok v w := run_load (by rw [add_none]; simpa using h 0 v rfl)
      refine (run_of_bind h0).trans ?_
      rw [run_loadCellsFrom n (i + 1) (acc.push v) vs (by simpa using hl) (fun j u hj => by have := h (j + 1) u (by simpa using hj); rwa [show i + 1 + j = i + (j + 1) by omega])]
      simp

theorem run_loadCells {P : Program} {w : World} {b off n : Nat} {vs : List Value} (hl : vs.length = n) (h : ∀ j v, vs[j]? = some v → w.cell? ⟨b, off + j, none⟩ = some v) :
    (loadCells ⟨b, off, none⟩ n).run P w = .ok vs.toArray w := by
  unfold loadCells
  rw [run_loadCellsFrom n 0 #[] vs hl (fun j v hj => by rw [Nat.zero_add]; exact h j v hj)]
  simp

/-- Each cell holds one value. -/
def OneCell : Value → Prop
  | .agg _ => False
  | .tuple _ => False
  | _ => True

/-- Cells from a place on are put in. -/
def splice (c : Array Value) (off : Nat) : List Value → Array Value
  | [] => c
  | v :: vs => splice (c.setIfInBounds off v) (off + 1) vs
theorem splice_size : ∀ (vs : List Value) (c : Array Value) (off : Nat), (splice c off vs).size = c.size
  | [], _, _ => rfl
  | v :: vs, c, off => by simp [splice, splice_size vs]

theorem run_store {P : Program} {w : World} {b off : Nat} {c : Array Value} {t : TypeId} {v : Value} (h : w.heap[b]? = some (.cells c t (0, 0))) (hlt : off < c.size) (h1 : OneCell v) :
    (store ⟨b, off, none⟩ v).run P w = .ok () (w.setCell ⟨b, off, none⟩ v) := by
  have hc : w.cell? ⟨b, off, none⟩ = some c[off] := by rw [cell_of h]; simp [hlt]
  have hf := frozen_of h off
  unfold store
  cases v <;> first | exact h1.elim | simp [Sem.run, hc, hf]

theorem heap_setCell {w : World} {b off : Nat} {c : Array Value} {t : TypeId} {v : Value} (h : w.heap[b]? = some (.cells c t (0, 0))) :
    (w.setCell ⟨b, off, none⟩ v).heap[b]? = some (.cells (c.setIfInBounds off v) t (0, 0)) ∧ (∀ d, d ≠ b → (w.setCell ⟨b, off, none⟩ v).heap[d]? = w.heap[d]?) := by
  refine ⟨?_, fun d hd => Below.heap_setCell _ _ _ _ hd⟩
  simp [World.setCell, Array.getElem?_modify, h]

theorem run_storeCells {P : Program} {b off : Nat} {t : TypeId} : ∀ (vs : List Value) (i : Nat) (w : World) (c : Array Value), w.heap[b]? = some (.cells c t (0, 0)) → off + i + vs.length ≤ c.size → (∀ v ∈ vs, OneCell v) →
    ∃ w', (storeCells ⟨b, off, none⟩ vs i).run P w = .ok () w' ∧ w'.os = w.os ∧ w'.tape = w.tape ∧ w'.output = w.output ∧ w'.heap.size = w.heap.size ∧
      w'.heap[b]? = some (.cells (splice c (off + i) vs) t (0, 0)) ∧ ∀ d, d ≠ b → w'.heap[d]? = w.heap[d]?
  | [], i, w, c, h, _, _ => ⟨w, rfl, rfl, rfl, rfl, rfl, h, fun _ _ => rfl⟩
  | v :: vs, i, w, c, h, hl, h1 => by
    simp only [List.length_cons] at hl
    have hlt : off + i < c.size := by omega
    have hs := run_store (P := P) h hlt (h1 v List.mem_cons_self)
    obtain ⟨hh, hne⟩ := heap_setCell (off := off + i) (v := v) h
    obtain ⟨w', hr, e1, e2, e3, e4, e5, e6⟩ := run_storeCells (P := P) (b := b) (off := off) (t := t) vs (i + 1) _ _ hh (by simp; omega) (fun u hu => h1 u (List.mem_cons_of_mem _ hu))
    refine ⟨w', ?_, e1, e2, e3, by rw [e4]; simp [World.setCell], ?_, fun d hd => by rw [e6 d hd, hne d hd]⟩
    · simp only [storeCells]
      rw [add_none]
      exact (run_of_bind hs).trans hr
    · rw [e5, ← Nat.add_assoc]; rfl

section
variable {P : Program} {o : Oper} {S : Slots} {w0 : World} {I : Nat → Option Obj} {H : Heap}

theorem f_alloc {t : TypeId} {z : Value} (hz : ∀ w, (zeroValue t).run P w = .ok z w) (ho : o.op = .alloc t) : FNew P o S (.cells z.cells t) (fun b => ptr b 0) := fun ρ hρ w => by
  simp only [execOp, ho]
  refine val_run (v := ptr w.heap.size 0) ?_
  show ((zeroValue t).bind fun zero => _).run P w = _
  rw [run_of_bind (hz w)]
  rfl

theorem f_box {t : TypeId} {x : Operand} {v : Value} (ho : o.op = .box t x) (hx : ev S x = some v) : FNew P o S (.cells v.cells t) (fun b => ptr b 0) := fun ρ hρ w => by
  simp only [execOp, ho, hρ _ _ hx]; rfl

theorem p_fieldAddr {t : TypeId} {x : Operand} {f b off n : Nat} (hf : ∀ a w, (Instr.fieldAt t (.pointer (some a)) f).run P w = .ok (.pointer (some (a.add n))) w) (ho : o.op = .fieldAddr t x f) (hx : ev S x = some (ptr b off)) :
    FPure P o S (ptr b (off + n)) := fun ρ hρ w => by
  simp only [execOp, ho, hρ _ _ hx]
  exact val_run (by rw [hf, add_none])

/-- A cell of an owned block. -/
theorem f_load {t t' : TypeId} {x : Operand} {b off j : Nat} {c : Array Value} {v : Value} (ha : ∀ w, (isAgg t).run P w = .ok false w) (hH : H[j]? = some (some b, .cells c t' (0, 0))) (hv : c[off]? = some v)
    (ho : o.op = .load t x) (hx : ev S x = some (ptr b off)) : FQuiet P o w0 I S H v := fun ρ hρ w hc => .inl (by
  simp only [execOp, ho, hρ _ _ hx]
  refine val_run ?_
  have hb := hc.own b _ (List.mem_of_getElem? hH)
  show ((isAgg t).bind _).run P w = _
  rw [run_of_bind (ha w)]
  exact run_load (by rw [cell_of hb, hv]))

/-- A whole owned block. -/
theorem f_loadA {t t' : TypeId} {x : Operand} {b j n : Nat} {c : Array Value} (ha : ∀ w, (isAgg t).run P w = .ok true w) (hs : ∀ w, (sizeOf t).run P w = .ok n w) (hH : H[j]? = some (some b, .cells c t' (0, 0))) (hn : c.size = n)
    (ho : o.op = .load t x) (hx : ev S x = some (ptr b 0)) : FQuiet P o w0 I S H (.agg c) := fun ρ hρ w hc => .inl (by
  simp only [execOp, ho, hρ _ _ hx]
  refine val_run ?_
  have hb := hc.own b _ (List.mem_of_getElem? hH)
  show ((isAgg t).bind _).run P w = _
  rw [run_of_bind (ha w)]
  show ((sizeOf t).bind _).run P w = _
  rw [run_of_bind (hs w)]
  refine (run_of_bind (run_loadCells (vs := c.toList) (by simpa using hn) (fun k v hk => ?_))).trans (by simp)
  rw [cell_of hb, Nat.zero_add]; simpa using hk)

theorem put_of_store {t t' : TypeId} {x y : Operand} {b off j n : Nat} {c : Array Value} {v : Value} (hs : ∀ w, (sizeOf t).run P w = .ok n w) (hH : H[j]? = some (some b, .cells c t' (0, 0))) (hn : v.cells.size = n) (hl : off + n ≤ c.size)
    (h1 : ∀ u ∈ v.cells.toList, OneCell u) (ho : o.op = .store t x y) (hx : ev S x = some (ptr b off)) (hy : ev S y = some v) :
    FPut P o w0 I S H (H.set j (some b, .cells (splice c off v.cells.toList) t' (0, 0))) := fun ρ hρ w hc => by
  have hb := hc.own b _ (List.mem_of_getElem? hH)
  obtain ⟨w', hr, e1, e2, e3, e4, e5, e6⟩ := run_storeCells (P := P) (off := off) v.cells.toList 0 w c hb (by simp; omega) h1
  refine ⟨w', ?_, hc.setObj hH e1 e2 e3 e4 e5 e6⟩
  simp only [execOp, ho, hρ _ _ hx, hρ _ _ hy]
  have h2 : (storeVar t ⟨b, off, none⟩ v).run P w = .ok () w' := by
    unfold storeVar
    refine (run_of_bind (hs w)).trans ?_
    rw [if_neg (by simp [hn])]
    exact hr
  show ((storeVar t ⟨b, off, none⟩ v).bind _).run P w = _
  rw [run_of_bind h2]; rfl

/-- A store into one cell of an owned block. -/
theorem f_store {t t' : TypeId} {x y : Operand} {b off j : Nat} {c : Array Value} {v : Value} (hs : ∀ w, (sizeOf t).run P w = .ok 1 w) (hH : H[j]? = some (some b, .cells c t' (0, 0))) (hn : v.cells = #[v]) (hl : off < c.size)
    (h1 : OneCell v) (ho : o.op = .store t x y) (hx : ev S x = some (ptr b off)) (hy : ev S y = some v) :
    FPut P o w0 I S H (H.set j (some b, .cells (c.setIfInBounds off v) t' (0, 0))) := by
  have := put_of_store (P := P) (o := o) (S := S) (w0 := w0) (I := I) (t := t) (t' := t') hs hH (v := v) (by rw [hn]; rfl) (off := off) (by omega) (by rw [hn]; simpa using h1) ho hx hy
  rw [hn] at this
  exact this

theorem splice_whole : ∀ (vs : List Value) (p : List Value) (c : List Value), c.length = vs.length → splice (p ++ c).toArray p.length vs = (p ++ vs).toArray
  | [], p, c, h => by
    have : c = [] := List.length_eq_zero_iff.1 h
    subst this; rfl
  | v :: vs, p, c, h => by
    match c, h with
    | u :: c, h =>
      have h1 : ((p ++ u :: c).toArray).setIfInBounds p.length v = ((p ++ [v]) ++ c).toArray := by simp
      rw [splice, h1, show p.length + 1 = (p ++ [v]).length by simp, splice_whole vs (p ++ [v]) c (by simpa using h)]
      simp

/-- A store that fills an owned block. -/
theorem f_storeA {t t' : TypeId} {x y : Operand} {b j n : Nat} {c c2 : Array Value} (hs : ∀ w, (sizeOf t).run P w = .ok n w) (hH : H[j]? = some (some b, .cells c t' (0, 0))) (hn : c2.size = n) (hl : c.size = n)
    (h1 : ∀ u ∈ c2.toList, OneCell u) (ho : o.op = .store t x y) (hx : ev S x = some (ptr b 0)) (hy : ev S y = some (.agg c2)) :
    FPut P o w0 I S H (H.set j (some b, .cells c2 t' (0, 0))) := by
  have h := put_of_store (P := P) (o := o) (S := S) (w0 := w0) (I := I) (t := t) (t' := t') hs hH (v := .agg c2) hn (off := 0) (by omega) h1 ho hx hy
  have e : splice c 0 c2.toList = c2 := by
    have := splice_whole c2.toList [] c.toList (by simp; omega)
    simpa using this
  rw [show (Value.agg c2).cells.toList = c2.toList from rfl, e] at h
  exact h

/-- The same, said of the one block that is read. -/
theorem b_load {t t' : TypeId} {x : Operand} {b off : Nat} {c : Array Value} {v : Value} (ha : ∀ w, (isAgg t).run P w = .ok false w) (hv : c[off]? = some v)
    (ho : o.op = .load t x) (hx : ev S x = some (ptr b off)) : ∀ ρ, Val S ρ → ∀ w, w.heap[b]? = some (.cells c t' (0, 0)) → (execOp ρ o).run P w = .ok (.value v) w := fun ρ hρ w hb => by
  simp only [execOp, ho, hρ _ _ hx]
  refine val_run ?_
  show ((isAgg t).bind _).run P w = _
  rw [run_of_bind (ha w)]
  exact run_load (by rw [cell_of hb, hv])
theorem b_loadA {t t' : TypeId} {x : Operand} {b n : Nat} {c : Array Value} (ha : ∀ w, (isAgg t).run P w = .ok true w) (hs : ∀ w, (sizeOf t).run P w = .ok n w) (hn : c.size = n)
    (ho : o.op = .load t x) (hx : ev S x = some (ptr b 0)) : ∀ ρ, Val S ρ → ∀ w, w.heap[b]? = some (.cells c t' (0, 0)) → (execOp ρ o).run P w = .ok (.value (.agg c)) w := fun ρ hρ w hb => by
  simp only [execOp, ho, hρ _ _ hx]
  refine val_run ?_
  show ((isAgg t).bind _).run P w = _
  rw [run_of_bind (ha w)]
  show ((sizeOf t).bind _).run P w = _
  rw [run_of_bind (hs w)]
  refine (run_of_bind (run_loadCells (vs := c.toList) (by simpa using hn) (fun k v hk => ?_))).trans (by simp)
  rw [cell_of hb, Nat.zero_add]; simpa using hk

end
end Go.HW
