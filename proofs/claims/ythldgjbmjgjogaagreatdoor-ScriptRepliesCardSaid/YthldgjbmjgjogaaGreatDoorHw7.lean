import Derived.Test.YthldgjbmjgjogaaGreatDoorHw2
import Derived.Laws.Externs
section
namespace Go.HW
open Go Go.RowKit
set_option linter.unusedVariables false
set_option linter.unusedSimpArgs false

/-! ### what an operation does, as far as the slots are known -/

def Val (S : Slots) (ρ : Operand → Value) : Prop := ∀ x v, ev S x = some v → ρ x = v
theorem Agree.val {N : Nat} {S : Slots} {a : Act} (h : Agree N S a) : Val S a.eval := fun _ _ hx => h.eval hx

def FPure (P : Program) (o : Oper) (S : Slots) (v : Value) : Prop := ∀ ρ, Val S ρ → ∀ w, (execOp ρ o).run P w = .ok (.value v) w
def FQuiet (P : Program) (o : Oper) (w0 : World) (I : Nat → Option Obj) (S : Slots) (H : Heap) (v : Value) : Prop :=
  ∀ ρ, Val S ρ → ∀ w, Cls w0 I H w → (execOp ρ o).run P w = .ok (.value v) w ∨
    ∃ f args, (execOp ρ o).run P w = .ok (.enter f args) w ∧ Calls P f args w fun e w' => e = .returned v ∧ Below w.heap.size w w'
def FNew (P : Program) (o : Oper) (S : Slots) (ob : Obj) (mk : Nat → Value) : Prop := ∀ ρ, Val S ρ → ∀ w, (execOp ρ o).run P w = .ok (.value (mk w.heap.size)) (w.alloc ob)
def FPut (P : Program) (o : Oper) (w0 : World) (I : Nat → Option Obj) (S : Slots) (H H' : Heap) : Prop :=
  ∀ ρ, Val S ρ → ∀ w, Cls w0 I H w → ∃ w', (execOp ρ o).run P w = .ok .skip w' ∧ Cls w0 I H' w'

/-! ### integers -/
def iand (k : IntKind) (a b : Int) : Int := k.wrap ((BitVec.ofInt k.bits a &&& BitVec.ofInt k.bits b).toNat)
def ishr (k : IntKind) (x y : Int) : Int := x.fdiv (2 ^ (min y.toNat k.bits))
section
variable {P : Program} {o : Oper} {S : Slots}

theorem p_move {x : Operand} {v : Value} (ho : o.op = .move x) (hx : ev S x = some v) : FPure P o S v := fun ρ hρ w => by
  simp only [execOp, ho, hρ _ _ hx]; rfl
theorem p_assign {x : Operand} {v : Value} (ho : o.op = .assign x) (hx : ev S x = some v) : FPure P o S v := fun ρ hρ w => by
  simp only [execOp, ho, hρ _ _ hx]; rfl
theorem p_pick_true {c x y : Operand} {v : Value} (ho : o.op = .pick c x y) (hc : ev S c = some (.bool true)) (hx : ev S x = some v) : FPure P o S v := fun ρ hρ w => by
  simp only [execOp, ho, hρ _ _ hc, hρ _ _ hx]; rfl
theorem p_pick_false {c x y : Operand} {v : Value} (ho : o.op = .pick c x y) (hc : ev S c = some (.bool false)) (hy : ev S y = some v) : FPure P o S v := fun ρ hρ w => by
  simp only [execOp, ho, hρ _ _ hc, hρ _ _ hy]; rfl

theorem ne_self_ite {α β : Type} [DecidableEq α] (k : α) (x y : β) : (if k ≠ k then x else y) = y := by rw [if_neg (fun h => h rfl)]

theorem p_int {op : BinOp} {T U : TypeId} {x y : Operand} {k : IntKind} {a b : Int} {v : Value} (ho : o.op = .binOp op T x y U) (hx : ev S x = some (.int k a)) (hy : ev S y = some (.int k b))
    (hr : ∀ w, (binOp op T (.int k a) (.int k b)).run P w = .ok v w) : FPure P o S v := fun ρ hρ w => by
  simp only [execOp, ho, hρ _ _ hx, hρ _ _ hy]
  have : (eqGuard op T x y (.int k a) (.int k b)) = pure () := by cases op <;> rfl
  simp only [this]
  have h2 := hr w
  show (((binOp op T (.int k a) (.int k b)) : Sem Value).bind fun v => Sem.pure (Next.value v)).run P w = _
  rw [Sem.run_bind', h2]
  rfl

variable {T U : TypeId} {x y : Operand} {k : IntKind} {a b : Int}
theorem p_add (ho : o.op = .binOp .add T x y U) (hx : ev S x = some (.int k a)) (hy : ev S y = some (.int k b)) : FPure P o S (.int k (k.wrap (a + b))) :=
  p_int ho hx hy fun w => by simp only [binOp, ne_self_ite]; rfl
theorem p_quo (h0 : b ≠ 0) (ho : o.op = .binOp .quo T x y U) (hx : ev S x = some (.int k a)) (hy : ev S y = some (.int k b)) : FPure P o S (.int k (k.wrap (a.tdiv b))) :=
  p_int ho hx hy fun w => by simp only [binOp, ne_self_ite, Op.intDiv, if_neg h0]; rfl
theorem p_rem (h0 : b ≠ 0) (ho : o.op = .binOp .rem T x y U) (hx : ev S x = some (.int k a)) (hy : ev S y = some (.int k b)) : FPure P o S (.int k (a.tmod b)) :=
  p_int ho hx hy fun w => by simp only [binOp, ne_self_ite, Op.intDiv, if_neg h0]; rfl
theorem p_and (ho : o.op = .binOp .and T x y U) (hx : ev S x = some (.int k a)) (hy : ev S y = some (.int k b)) : FPure P o S (.int k (iand k a b)) :=
  p_int ho hx hy fun w => by simp only [binOp, ne_self_ite]; rfl
theorem p_eql (ho : o.op = .binOp .eql T x y U) (hx : ev S x = some (.int k a)) (hy : ev S y = some (.int k b)) : FPure P o S (.bool (a == b)) :=
  p_int ho hx hy fun w => by simp only [binOp, ne_self_ite]; rfl
theorem p_neq (ho : o.op = .binOp .neq T x y U) (hx : ev S x = some (.int k a)) (hy : ev S y = some (.int k b)) : FPure P o S (.bool (a != b)) :=
  p_int ho hx hy fun w => by simp only [binOp, ne_self_ite]; rfl
theorem p_lss (ho : o.op = .binOp .lss T x y U) (hx : ev S x = some (.int k a)) (hy : ev S y = some (.int k b)) : FPure P o S (.bool (decide (a < b))) :=
  p_int ho hx hy fun w => by simp only [binOp, ne_self_ite]; rfl
theorem p_leq (ho : o.op = .binOp .leq T x y U) (hx : ev S x = some (.int k a)) (hy : ev S y = some (.int k b)) : FPure P o S (.bool (decide (a ≤ b))) :=
  p_int ho hx hy fun w => by simp only [binOp, ne_self_ite]; rfl
theorem p_gtr (ho : o.op = .binOp .gtr T x y U) (hx : ev S x = some (.int k a)) (hy : ev S y = some (.int k b)) : FPure P o S (.bool (decide (b < a))) :=
  p_int ho hx hy fun w => by simp only [binOp, ne_self_ite]; rfl
theorem p_geq (ho : o.op = .binOp .geq T x y U) (hx : ev S x = some (.int k a)) (hy : ev S y = some (.int k b)) : FPure P o S (.bool (decide (b ≤ a))) :=
  p_int ho hx hy fun w => by simp only [binOp, ne_self_ite]; rfl

theorem p_shr {k2 : IntKind} (h0 : 0 ≤ b) (ho : o.op = .binOp .shr T x y U) (hx : ev S x = some (.int k a)) (hy : ev S y = some (.int k2 b)) : FPure P o S (.int k (ishr k a b)) := fun ρ hρ w => by
  simp only [execOp, ho, hρ _ _ hx, hρ _ _ hy]
  have : (eqGuard .shr T x y (.int k a) (.int k2 b)) = pure () := rfl
  simp only [this, binOp, Op.shift, if_neg (show ¬ b < 0 by omega)]; rfl
theorem p_not {p : Bool} (ho : o.op = .unOp .not T x) (hx : ev S x = some (.bool p)) : FPure P o S (.bool (!p)) := fun ρ hρ w => by
  simp only [execOp, ho, hρ _ _ hx]; rfl

/-- A number of one kind as one of another. -/
theorem p_conv {T2 : TypeId} {k2 : IntKind} {d : TypeDesc} (h1 : ∀ w, (underlying T).run P w = .ok d w) (h2 : ∀ w, (underlying T2).run P w = .ok (.int k2) w) (hd : ∃ j, d = .int j)
    (ho : o.op = .convert T T2 x) (hx : ev S x = some (.int k a)) : ∀ ρ, Val S ρ → ∀ w, (execOp ρ o).run P w = .ok (.value (.int k2 (k2.wrap a))) w := fun ρ hρ w => by
  obtain ⟨j, rfl⟩ := hd
  simp only [execOp, ho, hρ _ _ hx]
  show ((convert T T2 (.int k a)).bind fun v => Sem.pure (Next.value v)).run P w = _
  rw [Sem.run_bind']
  have : (convert T T2 (.int k a)).run P w = .ok (.int k2 (k2.wrap a)) w := by
    show ((underlying T).bind fun s => (underlying T2).bind _).run P w = _
    rw [Sem.run_bind', h1 w]
    show ((underlying T2).bind _).run P w = _
    rw [Sem.run_bind', h2 w]; rfl
  rw [this]; rfl

theorem p_extract {t : Operand} {i : Nat} {vs : Array Value} {v : Value} (ho : o.op = .extract t i) (hx : ev S t = some (.tuple vs)) (hi : vs[i]? = some v) : FPure P o S v := fun ρ hρ w => by
  simp only [execOp, ho, hρ _ _ hx, Instr.extract, hi]; rfl
end
end Go.HW
end

section
namespace Go.HW
open Go Go.RowKit
set_option linter.unusedVariables false
set_option linter.unusedSimpArgs false

/-! ### memory -/

theorem run_of_bind {α β : Type} {P : Program} {x : Sem α} {f : α → Sem β} {w w' : World} {a : α} (h : x.run P w = .ok a w') : (x.bind f).run P w = (f a).run P w' := by
  rw [Sem.run_bind', h]; rfl

theorem val_run {P : Program} {x : Sem Value} {w w' : World} {v : Value} (h : x.run P w = .ok v w') : (x.bind fun v => Sem.pure (Next.value v)).run P w = .ok (.value v) w' := by
  rw [run_of_bind h]; rfl

/-- Numbers of one kind as cells. -/
def enc (k : IntKind) (xs : List Int) : Array Value := (xs.map (Value.int k)).toArray
theorem enc_size (k : IntKind) (xs : List Int) : (enc k xs).size = xs.length := by simp [enc]
theorem enc_get (k : IntKind) {xs : List Int} {i : Nat} (h : i < xs.length) : (enc k xs)[i]? = some (.int k (xs.getD i 0)) := by
  simp [enc, h]
theorem add_none (b o n : Nat) : (⟨b, o, none⟩ : Addr).add n = ⟨b, o + n, none⟩ := by
  unfold Addr.add
  split
  · subst_vars; rfl
  · rfl

/-- A pointer at a cell of a block. -/
abbrev ptr (b off : Nat) : Value := .pointer (some ⟨b, off, none⟩)

theorem cell_of {w : World} {b : Nat} {c : Array Value} {t : TypeId} {z : Nat × Nat} (h : w.heap[b]? = some (.cells c t z)) (off : Nat) : w.cell? ⟨b, off, none⟩ = c[off]? := by
  simp [World.cell?, h]
theorem frozen_of {w : World} {b : Nat} {c : Array Value} {t : TypeId} (h : w.heap[b]? = some (.cells c t (0, 0))) (off : Nat) : w.frozen? ⟨b, off, none⟩ = false := by
  simp [World.frozen?, h]

theorem run_load {P : Program} {w : World} {a : Addr} {v : Value} (h : w.cell? a = some v) : (load a).run P w = .ok v w := by
  simp only [load, Sem.run, h]

theorem run_loadCellsFrom {P : Program} {w : World} {b off : Nat} : ∀ (n i : Nat) (acc : Array Value) (vs : List Value), vs.length = n → (∀ j v, vs[j]? = some v → w.cell? ⟨b, off + (i + j), none⟩ = some v) →
    (loadCellsFrom ⟨b, off, none⟩ i n acc).run P w = .ok (acc ++ vs.toArray) w
  | 0, i, acc, vs, hl, _ => by
    have : vs = [] := List.length_eq_zero_iff.1 hl
    subst this; simp [loadCellsFrom]
  | n + 1, i, acc, vs, hl, h => by
    match vs, hl with
    | v :: vs, hl =>
      simp only [loadCellsFrom]
      have h0 : (load ((⟨b, off, none⟩ : Addr).add i)).run P w = .ok v w := run_load (by rw [add_none]; simpa using h 0 v rfl)
      refine (run_of_bind h0).trans ?_
      rw [run_loadCellsFrom n (i + 1) (acc.push v) vs (by simpa using hl) (fun j u hj => by have := h (j + 1) u (by simpa using hj); rwa [show i + 1 + j = i + (j + 1) by omega])]
      simp

theorem run_loadCells {P : Program} {w : World} {b off n : Nat} {vs : List Value} (hl : vs.length = n) (h : ∀ j v, vs[j]? = some v → w.cell? ⟨b, off + j, none⟩ = some v) :
    (loadCells ⟨b, off, none⟩ n).run P w = .ok vs.toArray w := by
  unfold loadCells
  rw [run_loadCellsFrom n 0 #[] vs hl (fun j v hj => by rw [Nat.zero_add]; exact h j v hj)]
  simp

/-- Each cell holds one value. -/
def OneCell : Value → Prop
  | .agg _ => False
  | .tuple _ => False
  | _ => True

/-- Cells from a place on are put in. -/
def splice (c : Array Value) (off : Nat) : List Value → Array Value
  | [] => c
  | v :: vs => splice (c.setIfInBounds off v) (off + 1) vs
theorem splice_size : ∀ (vs : List Value) (c : Array Value) (off : Nat), (splice c off vs).size = c.size
  | [], _, _ => rfl
  | v :: vs, c, off => by simp [splice, splice_size vs]

theorem run_store {P : Program} {w : World} {b off : Nat} {c : Array Value} {t : TypeId} {v : Value} (h : w.heap[b]? = some (.cells c t (0, 0))) (hlt : off < c.size) (h1 : OneCell v) :
    (store ⟨b, off, none⟩ v).run P w = .ok () (w.setCell ⟨b, off, none⟩ v) := by
  have hc : w.cell? ⟨b, off, none⟩ = some c[off] := by rw [cell_of h]; simp [hlt]
  have hf := frozen_of h off
  unfold store
  cases v <;> first | exact h1.elim | simp [Sem.run, hc, hf]

theorem heap_setCell {w : World} {b off : Nat} {c : Array Value} {t : TypeId} {v : Value} (h : w.heap[b]? = some (.cells c t (0, 0))) :
    (w.setCell ⟨b, off, none⟩ v).heap[b]? = some (.cells (c.setIfInBounds off v) t (0, 0)) ∧ (∀ d, d ≠ b → (w.setCell ⟨b, off, none⟩ v).heap[d]? = w.heap[d]?) := by
  refine ⟨?_, fun d hd => Below.heap_setCell _ _ _ _ hd⟩
  simp [World.setCell, Array.getElem?_modify, h]

theorem run_storeCells {P : Program} {b off : Nat} {t : TypeId} : ∀ (vs : List Value) (i : Nat) (w : World) (c : Array Value), w.heap[b]? = some (.cells c t (0, 0)) → off + i + vs.length ≤ c.size → (∀ v ∈ vs, OneCell v) →
    ∃ w', (storeCells ⟨b, off, none⟩ vs i).run P w = .ok () w' ∧ w'.os = w.os ∧ w'.tape = w.tape ∧ w'.output = w.output ∧ w'.heap.size = w.heap.size ∧
      w'.heap[b]? = some (.cells (splice c (off + i) vs) t (0, 0)) ∧ ∀ d, d ≠ b → w'.heap[d]? = w.heap[d]?
  | [], i, w, c, h, _, _ => ⟨w, rfl, rfl, rfl, rfl, rfl, h, fun _ _ => rfl⟩
  | v :: vs, i, w, c, h, hl, h1 => by
    simp only [List.length_cons] at hl
    have hlt : off + i < c.size := by omega
    have hs := run_store (P := P) h hlt (h1 v List.mem_cons_self)
    obtain ⟨hh, hne⟩ := heap_setCell (off := off + i) (v := v) h
    obtain ⟨w', hr, e1, e2, e3, e4, e5, e6⟩ := run_storeCells (P := P) (b := b) (off := off) (t := t) vs (i + 1) _ _ hh (by simp; omega) (fun u hu => h1 u (List.mem_cons_of_mem _ hu))
    refine ⟨w', ?_, e1, e2, e3, by rw [e4]; simp [World.setCell], ?_, fun d hd => by rw [e6 d hd, hne d hd]⟩
    · simp only [storeCells]
      rw [add_none]
      exact (run_of_bind hs).trans hr
    · rw [e5, ← Nat.add_assoc]; rfl

section
variable {P : Program} {o : Oper} {S : Slots} {w0 : World} {I : Nat → Option Obj} {H : Heap}

theorem f_alloc {t : TypeId} {z : Value} (hz : ∀ w, (zeroValue t).run P w = .ok z w) (ho : o.op = .alloc t) : FNew P o S (.cells z.cells t) (fun b => ptr b 0) := fun ρ hρ w => by
  simp only [execOp, ho]
  refine val_run (v := ptr w.heap.size 0) ?_
  show ((zeroValue t).bind fun zero => _).run P w = _
  rw [run_of_bind (hz w)]
  rfl

theorem f_box {t : TypeId} {x : Operand} {v : Value} (ho : o.op = .box t x) (hx : ev S x = some v) : FNew P o S (.cells v.cells t) (fun b => ptr b 0) := fun ρ hρ w => by
  simp only [execOp, ho, hρ _ _ hx]; rfl

theorem p_fieldAddr {t : TypeId} {x : Operand} {f b off n : Nat} (hf : ∀ a w, (Instr.fieldAt t (.pointer (some a)) f).run P w = .ok (.pointer (some (a.add n))) w) (ho : o.op = .fieldAddr t x f) (hx : ev S x = some (ptr b off)) :
    FPure P o S (ptr b (off + n)) := fun ρ hρ w => by
  simp only [execOp, ho, hρ _ _ hx]
  exact val_run (by rw [hf, add_none])

/-- A cell of an owned block. -/
theorem f_load {t t' : TypeId} {x : Operand} {b off j : Nat} {c : Array Value} {v : Value} (ha : ∀ w, (isAgg t).run P w = .ok false w) (hH : H[j]? = some (some b, .cells c t' (0, 0))) (hv : c[off]? = some v)
    (ho : o.op = .load t x) (hx : ev S x = some (ptr b off)) : FQuiet P o w0 I S H v := fun ρ hρ w hc => .inl (by
  simp only [execOp, ho, hρ _ _ hx]
  refine val_run ?_
  have hb := hc.own b _ (List.mem_of_getElem? hH)
  show ((isAgg t).bind _).run P w = _
  rw [run_of_bind (ha w)]
  exact run_load (by rw [cell_of hb, hv]))

/-- A whole owned block. -/
theorem f_loadA {t t' : TypeId} {x : Operand} {b j n : Nat} {c : Array Value} (ha : ∀ w, (isAgg t).run P w = .ok true w) (hs : ∀ w, (sizeOf t).run P w = .ok n w) (hH : H[j]? = some (some b, .cells c t' (0, 0))) (hn : c.size = n)
    (ho : o.op = .load t x) (hx : ev S x = some (ptr b 0)) : FQuiet P o w0 I S H (.agg c) := fun ρ hρ w hc => .inl (by
  simp only [execOp, ho, hρ _ _ hx]
  refine val_run ?_
  have hb := hc.own b _ (List.mem_of_getElem? hH)
  show ((isAgg t).bind _).run P w = _
  rw [run_of_bind (ha w)]
  show ((sizeOf t).bind _).run P w = _
  rw [run_of_bind (hs w)]
  refine (run_of_bind (run_loadCells (vs := c.toList) (by simpa using hn) (fun k v hk => ?_))).trans (by simp)
  rw [cell_of hb, Nat.zero_add]; simpa using hk)

theorem put_of_store {t t' : TypeId} {x y : Operand} {b off j n : Nat} {c : Array Value} {v : Value} (hs : ∀ w, (sizeOf t).run P w = .ok n w) (hH : H[j]? = some (some b, .cells c t' (0, 0))) (hn : v.cells.size = n) (hl : off + n ≤ c.size)
    (h1 : ∀ u ∈ v.cells.toList, OneCell u) (ho : o.op = .store t x y) (hx : ev S x = some (ptr b off)) (hy : ev S y = some v) :
    FPut P o w0 I S H (H.set j (some b, .cells (splice c off v.cells.toList) t' (0, 0))) := fun ρ hρ w hc => by
  have hb := hc.own b _ (List.mem_of_getElem? hH)
  obtain ⟨w', hr, e1, e2, e3, e4, e5, e6⟩ := run_storeCells (P := P) (off := off) v.cells.toList 0 w c hb (by simp; omega) h1
  refine ⟨w', ?_, hc.setObj hH e1 e2 e3 e4 e5 e6⟩
  simp only [execOp, ho, hρ _ _ hx, hρ _ _ hy]
  have h2 : (storeVar t ⟨b, off, none⟩ v).run P w = .ok () w' := by
    unfold storeVar
    refine (run_of_bind (hs w)).trans ?_
    rw [if_neg (by simp [hn])]
    exact hr
  show ((storeVar t ⟨b, off, none⟩ v).bind _).run P w = _
  rw [run_of_bind h2]; rfl

/-- A store into one cell of an owned block. -/
theorem f_store {t t' : TypeId} {x y : Operand} {b off j : Nat} {c : Array Value} {v : Value} (hs : ∀ w, (sizeOf t).run P w = .ok 1 w) (hH : H[j]? = some (some b, .cells c t' (0, 0))) (hn : v.cells = #[v]) (hl : off < c.size)
    (h1 : OneCell v) (ho : o.op = .store t x y) (hx : ev S x = some (ptr b off)) (hy : ev S y = some v) :
    FPut P o w0 I S H (H.set j (some b, .cells (c.setIfInBounds off v) t' (0, 0))) := by
  have := put_of_store (P := P) (o := o) (S := S) (w0 := w0) (I := I) (t := t) (t' := t') hs hH (v := v) (by rw [hn]; rfl) (off := off) (by omega) (by rw [hn]; simpa using h1) ho hx hy
  rw [hn] at this
  exact this

theorem splice_whole : ∀ (vs : List Value) (p : List Value) (c : List Value), c.length = vs.length → splice (p ++ c).toArray p.length vs = (p ++ vs).toArray
  | [], p, c, h => by
    have : c = [] := List.length_eq_zero_iff.1 h
    subst this; rfl
  | v :: vs, p, c, h => by
    match c, h with
    | u :: c, h =>
      have h1 : ((p ++ u :: c).toArray).setIfInBounds p.length v = ((p ++ [v]) ++ c).toArray := by simp
      rw [splice, h1, show p.length + 1 = (p ++ [v]).length by simp, splice_whole vs (p ++ [v]) c (by simpa using h)]
      simp

/-- A store that fills an owned block. -/
theorem f_storeA {t t' : TypeId} {x y : Operand} {b j n : Nat} {c c2 : Array Value} (hs : ∀ w, (sizeOf t).run P w = .ok n w) (hH : H[j]? = some (some b, .cells c t' (0, 0))) (hn : c2.size = n) (hl : c.size = n)
    (h1 : ∀ u ∈ c2.toList, OneCell u) (ho : o.op = .store t x y) (hx : ev S x = some (ptr b 0)) (hy : ev S y = some (.agg c2)) :
    FPut P o w0 I S H (H.set j (some b, .cells c2 t' (0, 0))) := by
  have h := put_of_store (P := P) (o := o) (S := S) (w0 := w0) (I := I) (t := t) (t' := t') hs hH (v := .agg c2) hn (off := 0) (by omega) h1 ho hx hy
  have e : splice c 0 c2.toList = c2 := by
    have := splice_whole c2.toList [] c.toList (by simp; omega)
    simpa using this
  rw [show (Value.agg c2).cells.toList = c2.toList from rfl, e] at h
  exact h

/-- The same, said of the one block that is read. -/
theorem b_load {t t' : TypeId} {x : Operand} {b off : Nat} {c : Array Value} {v : Value} (ha : ∀ w, (isAgg t).run P w = .ok false w) (hv : c[off]? = some v)
    (ho : o.op = .load t x) (hx : ev S x = some (ptr b off)) : ∀ ρ, Val S ρ → ∀ w, w.heap[b]? = some (.cells c t' (0, 0)) → (execOp ρ o).run P w = .ok (.value v) w := fun ρ hρ w hb => by
  simp only [execOp, ho, hρ _ _ hx]
  refine val_run ?_
  show ((isAgg t).bind _).run P w = _
  rw [run_of_bind (ha w)]
  exact run_load (by rw [cell_of hb, hv])
theorem b_loadA {t t' : TypeId} {x : Operand} {b n : Nat} {c : Array Value} (ha : ∀ w, (isAgg t).run P w = .ok true w) (hs : ∀ w, (sizeOf t).run P w = .ok n w) (hn : c.size = n)
    (ho : o.op = .load t x) (hx : ev S x = some (ptr b 0)) : ∀ ρ, Val S ρ → ∀ w, w.heap[b]? = some (.cells c t' (0, 0)) → (execOp ρ o).run P w = .ok (.value (.agg c)) w := fun ρ hρ w hb => by
  simp only [execOp, ho, hρ _ _ hx]
  refine val_run ?_
  show ((isAgg t).bind _).run P w = _
  rw [run_of_bind (ha w)]
  show ((sizeOf t).bind _).run P w = _
  rw [run_of_bind (hs w)]
  refine (run_of_bind (run_loadCells (vs := c.toList) (by simpa using hn) (fun k v hk => ?_))).trans (by simp)
  rw [cell_of hb, Nat.zero_add]; simpa using hk

end
end Go.HW
end

section
namespace Go.HW
open Go Go.RowKit
set_option linter.unusedVariables false
set_option linter.unusedSimpArgs false

/-! ### the walk's steps -/

/-- What is written where 'none' would be a panic. -/
def req {α : Type} (p : Prop) [Decidable p] (x : Option α) : Option α := if p then x else none
theorem req_some {α : Type} {p : Prop} [Decidable p] {x : Option α} {r : α} (h : req p x = some r) : p ∧ x = some r := by
  unfold req at h
  split at h
  · exact ⟨‹p›, h⟩
  · cases h
theorem bind_some {α β : Type} {x : Option α} {f : α → Option β} {r : β} (h : x.bind f = some r) : ∃ a, x = some a ∧ f a = some r := Option.bind_eq_some_iff.mp h
theorem ite_true {α : Type} {p : Bool} {x y : Option α} {r : α} (hp : p = true) (h : (if p = true then x else y) = some r) : x = some r := by rw [if_pos hp] at h; exact h
theorem ite_false {α : Type} {p : Bool} {x y : Option α} {r : α} (hp : p = false) (h : (if p = true then x else y) = some r) : y = some r := by
  rw [if_neg (by rw [hp]; exact Bool.false_ne_true)] at h; exact h

def heapOf (w : World) : Nat → Option Obj := fun b => w.heap[b]?

def TT (P : Program) (f : FuncId) (R : Ending → World → Prop) (N : Nat) (w0 : World) (I : Nat → Option Obj) (k : List Item) (S : Slots) (H : Heap) : Prop :=
  ∀ a w, Agree N S a → Cls w0 I H w → T P f R k a w

def DK (P : Program) (N : Nat) (w0 : World) (I : Nat → Option Obj) (Kc : Act → World → Prop) (ops : Array Oper) (lab : Lab) (ids : Nat → Option Nat) (l : List Nat) (S : Slots) (H : Heap) : Prop :=
  ∀ a, Agree N S a → listD P ops w0 I lab ids (fun a H => ∀ w, Cls w0 I H w → Kc a w) l a H
abbrev DL (P : Program) (f : FuncId) (R : Ending → World → Prop) (N : Nat) (w0 : World) (I : Nat → Option Obj) (k : List Item) (ops : Array Oper) (lab : Lab) (ids : Nat → Option Nat) (l : List Nat) (S : Slots) (H : Heap) : Prop :=
  DK P N w0 I (T P f R k) ops lab ids l S H

section
variable {Kc : Act → World → Prop} {P : Program} {f : FuncId} {R : Ending → World → Prop} {N : Nat} {w0 : World} {I : Nat → Option Obj} {k : List Item} {S : Slots} {H : Heap}

theorem TT.weak {S' : Slots} (h : TT P f R N w0 I k S' H) (hs : Sub S' S) : TT P f R N w0 I k S H := fun a w ha hc => h a w (ha.sub hs) hc
theorem TT.fewer {H' : Heap} (h : TT P f R N w0 I k S H') (hs : H'.Sublist H) : TT P f R N w0 I k S H := fun a w ha hc => h a w ha (hc.fewer hs)
theorem TT.seq {x y : Code} (h : TT P f R N w0 I (.code x :: .code y :: k) S H) : TT P f R N w0 I (.code (.seq x y) :: k) S H := fun a w ha hc => T.seq (h a w ha hc)
theorem TT.skip (h : TT P f R N w0 I k S H) : TT P f R N w0 I (.code .skip :: k) S H := fun a w ha hc => T.skip (h a w ha hc)
theorem TT.label {l : Nat} (h : TT P f R N w0 I k S H) : TT P f R N w0 I (.code (.label l) :: k) S H := fun a w ha hc => T.label (h a w ha hc)
theorem TT.block {id : Nat} {c : Code} (h : TT P f R N w0 I (.code c :: .inBlock id :: k) S H) : TT P f R N w0 I (.code (.block id c) :: k) S H := fun a w ha hc => T.block (h a w ha hc)
theorem TT.inBlock {id : Nat} (h : TT P f R N w0 I k S H) : TT P f R N w0 I (.inBlock id :: k) S H := fun a w ha hc => T.inBlock (h a w ha hc)
theorem TT.loop {c : Code} (h : TT P f R N w0 I (.code c :: .inLoop c :: k) S H) : TT P f R N w0 I (.code (.loop c) :: k) S H := fun a w ha hc => T.loop (h a w ha hc)
theorem TT.inLoop {c : Code} (h : TT P f R N w0 I (.code c :: .inLoop c :: k) S H) : TT P f R N w0 I (.inLoop c :: k) S H := fun a w ha hc => T.inLoop (h a w ha hc)
theorem TT.exit {id : Nat} {k' : List Item} (he : exitTo id k = some k') (h : TT P f R N w0 I k' S H) : TT P f R N w0 I (.code (.exit id) :: k) S H := fun a w ha hc => T.exit he (h a w ha hc)
theorem TT.cond_true {c : Operand} {x y : Code} {p : Bool} (hc : ev S c = some (.bool p)) (hp : p = true) (h : TT P f R N w0 I (.code x :: k) S H) : TT P f R N w0 I (.code (.cond c x y) :: k) S H := fun a w ha hcl => by
  subst hp; exact T.cond (t := true) (ha.eval hc) (h a w ha hcl)
theorem TT.cond_false {c : Operand} {x y : Code} {p : Bool} (hc : ev S c = some (.bool p)) (hp : p = false) (h : TT P f R N w0 I (.code y :: k) S H) : TT P f R N w0 I (.code (.cond c x y) :: k) S H := fun a w ha hcl => by
  subst hp; exact T.cond (t := false) (ha.eval hc) (h a w ha hcl)

/-! #### regions -/

theorem Q_mono {Kc : Act → World → Prop} : KMono w0 I fun a H => ∀ w, Cls w0 I H w → Kc a w := ⟨fun a H1 H2 hw h w hc => h w (hc.perm hw.symm), fun a H h w hc => absurd ⟨w, hc⟩ h⟩

theorem wpOps_of_listD {ops : Array Oper} {lab : Lab} {ids : Nat → Option Nat} {Q : Act → Heap → Prop} {Q' : Exit → Act → World → Prop} (hQ : ∀ a H w, Cls w0 I H w → Q a H → Q' .normal a w) :
    ∀ (l : List Nat) (a : Act) (H : Heap) (w : World), Cls w0 I H w → listD P ops w0 I lab ids Q l a H → wpOps P ops Q' l a w
  | [], _, _, _, hc, h => hQ _ _ _ hc h
  | i :: l, _, _, _, hc, h => by
    rw [wpOps_cons]
    exact wpOp_of_stepD hc (fun a' H' w' hc' h' => wpOps_of_listD hQ l a' H' w' hc' h') h

theorem TT.region {id n : Nat} {ops : Array Oper} (ll : List (Kd × Option Nat)) (hn : ops.size = n) (h : DL P f R N w0 I k ops (labOf ll) (fun _ => none) (List.range n) S H) : TT P f R N w0 I (.code (.region id ops false) :: k) S H := fun a w ha hc =>
  T.region (wp_region (by rw [hn]; exact wpOps_of_listD (fun a' H' w' hc' h' => ⟨rfl, h' w' hc'⟩) _ _ _ _ hc (h a ha)))

theorem TT.regionD {id : Nat} {ops : Array Oper} (l m : List Nat) (ll : List (Kd × Option Nat)) (hm : P.follows .mixedOrders = true) (hB : okP ops (labOf ll) l m = true)
    (h : ∀ w1, Later w0 w1 → (∀ z y b, idsOf H z = some b → idsOf H y = some b → z = y) → (∀ z b, idsOf H z = some b → b < w1.heap.size) → DL P f R N w1 I k ops (labOf ll) (idsOf H) l S H) : TT P f R N w0 I (.code (.region id ops true) :: k) S H := fun a w ha hc =>
  T.region (wp_region_D hm (okD_of_okP hB) Q_mono (fun a' H' w' hc' h' => ⟨rfl, h' w' hc'⟩) hc (h w ⟨hc.os, hc.tape, hc.output, hc.size⟩ (ids_inj hc.nodup) (ids_lt hc) a ha))

variable {ops : Array Oper} {l : List Nat} {i d : Nat} {o : Oper} {v : Value} {lab : Lab} {ids : Nat → Option Nat}

theorem DL.nil' {w1 : World} (hl : Later w0 w1) (h : TT P f R N w0 I k S H) : DL P f R N w1 I k ops lab ids [] S H := fun a ha w hc => h a w ha (hc.later hl)
theorem DL.nil (h : TT P f R N w0 I k S H) : DL P f R N w0 I k ops lab ids [] S H := fun a ha w hc => h a w ha hc
theorem DL.weak {S' : Slots} (h : DK P N w0 I Kc ops lab ids l S' H) (hs : Sub S' S) : DK P N w0 I Kc ops lab ids l S H := fun a ha => h a (ha.sub hs)

/-- Is the operation carried out? -/
def Wn (ops : Array Oper) (S : Slots) (o : Oper) (b : Bool) : Prop := ∀ N a, Agree N S a → Region.wanted o (yielded ops a.tmps) = b
theorem Wn.none (hg : o.guard = Option.none) : Wn ops S o true := fun N a _ => by simp [Region.wanted, hg]
theorem Wn.some {j t : Nat} {want p : Bool} {b : Bool} (hg : o.guard = Option.some (j, want)) (hj : (ops[j]?).bind (·.dst) = Option.some t) (ht : get S t = Option.some (.bool p)) (hb : (p == want) = b) : Wn ops S o b := fun N a ha => by
  simp only [Region.wanted, hg, yielded, hj, Option.bind_some, ha.2.2 t _ ht]
  rw [← hb]
  cases p <;> cases want <;> rfl
theorem Wn.undef {j t : Nat} {want : Bool} (hg : o.guard = Option.some (j, want)) (hj : (ops[j]?).bind (·.dst) = Option.some t) (ht : get S t = Option.some undef) : Wn ops S o false := fun N a ha => by
  simp only [Region.wanted, hg, yielded, hj, Option.bind_some, ha.2.2 t _ ht]
  rfl

def FImm (P : Program) (o : Oper) (I : Nat → Option Obj) (S : Slots) (v : Value) : Prop := ∀ ρ, Val S ρ → ∀ w, Imm I w → (execOp ρ o).run P w = .ok (.value v) w

theorem DL.imm (hi : ops[i]? = some o) (hw : Wn ops S o true) (hd : o.dst = some d) (hN : Nat.blt d N = true) (hk : (lab i).1 = .pure) (hp : FImm P o I S v) (h : DK P N w0 I Kc ops lab ids l ((d, v) :: S) H) : DK P N w0 I Kc ops lab ids (i :: l) S H := fun a ha => by
  show stepD P ops w0 I lab ids i _ a H
  unfold stepD
  rw [hi]
  intro _
  exact ⟨.val v, .inl ⟨hw N a ha, .inl ⟨hk, hp _ ha.val⟩⟩, by show listD _ _ _ _ _ _ _ _ _ _; rw [hd]; exact h _ (ha.put (by simpa [Nat.blt_eq] using hN) v)⟩
theorem DL.pure (hi : ops[i]? = some o) (hw : Wn ops S o true) (hd : o.dst = some d) (hN : Nat.blt d N = true) (hk : (lab i).1 = .pure) (hp : FPure P o S v) (h : DK P N w0 I Kc ops lab ids l ((d, v) :: S) H) : DK P N w0 I Kc ops lab ids (i :: l) S H :=
  DL.imm hi hw hd hN hk (fun ρ hρ w _ => hp ρ hρ w) h

theorem DL.quiet (hi : ops[i]? = some o) (hw : Wn ops S o true) (hd : o.dst = some d) (hN : Nat.blt d N = true) (hk : (lab i).1 = .quiet) (hp : FQuiet P o w0 I S H v) (h : DK P N w0 I Kc ops lab ids l ((d, v) :: S) H) : DK P N w0 I Kc ops lab ids (i :: l) S H := fun a ha => by
  show stepD P ops w0 I lab ids i _ a H
  unfold stepD
  rw [hi]
  intro _
  exact ⟨.val v, .inl ⟨hw N a ha, .inr (.inl ⟨hk, fun w hc => hp _ ha.val w hc⟩)⟩, by show listD _ _ _ _ _ _ _ _ _ _; rw [hd]; exact h _ (ha.put (by simpa [Nat.blt_eq] using hN) v)⟩

theorem DL.new {ob : Obj} {mk : Nat → Value} (hi : ops[i]? = some o) (hw : Wn ops S o true) (hd : o.dst = some d) (hN : Nat.blt d N = true) (hk : (lab i).1 = .alloc) (hp : FNew P o S ob mk)
    (h : ∀ b, w0.heap.size ≤ b → DK P N w0 I Kc ops lab ids l ((d, mk b) :: S) ((some b, ob) :: H)) : DK P N w0 I Kc ops lab ids (i :: l) S H := fun a ha => by
  show stepD P ops w0 I lab ids i _ a H
  unfold stepD
  rw [hi]
  intro _
  exact ⟨.new ob mk, .inl ⟨hw N a ha, hk, hp _ ha.val⟩, fun b hb => by show listD _ _ _ _ _ _ _ _ _ _; rw [hd]; exact h b hb _ (ha.put (by simpa [Nat.blt_eq] using hN) (mk b))⟩

/-- .. a load from a block that stood when the region began. -/
theorem DL.look {x b : Nat} {ob : Obj} (hi : ops[i]? = some o) (hw : Wn ops S o true) (hd : o.dst = some d) (hN : Nat.blt d N = true) (hk : (lab i).1 = .look) (hx : (lab i).2 = some x) (hb : ids x = some b) (hm : (some b, ob) ∈ H)
    (hp : ∀ ρ, Val S ρ → ∀ w, w.heap[b]? = some ob → (execOp ρ o).run P w = .ok (.value v) w) (h : DK P N w0 I Kc ops lab ids l ((d, v) :: S) H) : DK P N w0 I Kc ops lab ids (i :: l) S H := fun a ha => by
  show stepD P ops w0 I lab ids i _ a H
  unfold stepD
  rw [hi]
  intro _
  exact ⟨.val v, .inl ⟨hw N a ha, .inr (.inr ⟨hk, x, b, ob, hx, hb, hm, fun w hc => hp _ ha.val w hc⟩)⟩, by show listD _ _ _ _ _ _ _ _ _ _; rw [hd]; exact h _ (ha.put (by simpa [Nat.blt_eq] using hN) v)⟩

theorem DL.put {H' : Heap} (hi : ops[i]? = some o) (hw : Wn ops S o true) (hd : o.dst = none) (hk : (lab i).1 = .store) (hp : FPut P o w0 I S H H') (hkeep : ∀ x, (lab i).2 = some x → ∀ z b ob, z ≠ x → ids z = some b → (some b, ob) ∈ H → (some b, ob) ∈ H')
    (h : DK P N w0 I Kc ops lab ids l S H') : DK P N w0 I Kc ops lab ids (i :: l) S H := fun a ha => by
  show stepD P ops w0 I lab ids i _ a H
  unfold stepD
  rw [hi]
  intro _
  exact ⟨.put H', .inl ⟨hw N a ha, .inl hk, fun w hc => hp _ ha.val w hc, hkeep⟩, by show listD _ _ _ _ _ _ _ _ _ _; rw [hd]; exact h _ (ha.none undef)⟩

theorem keep_none {H' : Heap} (h : (lab i).2 = none) : ∀ x, (lab i).2 = some x → ∀ z b ob, z ≠ x → ids z = some b → (some b, ob) ∈ H → (some b, ob) ∈ H' := fun x hx => by rw [h] at hx; cases hx
theorem keep_ne {j b : Nat} {o1 o2 : Obj} (hj : H[j]? = some (some b, o1)) {c : Nat} {ob : Obj} (hc : c ≠ b) (hm : (some c, ob) ∈ H) : (some c, ob) ∈ H.set j (some b, o2) := by
  obtain ⟨k, hk⟩ := List.mem_iff_getElem?.1 hm
  by_cases hjk : j = k
  · subst hjk; rw [hj] at hk; cases hk; exact absurd rfl hc
  · exact List.mem_of_getElem? (by rw [List.getElem?_set_ne hjk]; exact hk)
theorem keep_set {j y b : Nat} {o1 o2 : Obj} (hinj : ∀ z y b, ids z = some b → ids y = some b → z = y) (h : (lab i).2 = some y) (hb : ids y = some b) (hj : H[j]? = some (some b, o1)) : ∀ x, (lab i).2 = some x → ∀ z c ob, z ≠ x → ids z = some c → (some c, ob) ∈ H → (some c, ob) ∈ H.set j (some b, o2) := fun x hx z c ob hz hc hm => by
  have hxy : x = y := by rw [h] at hx; exact (Option.some.inj hx).symm
  subst hxy
  exact keep_ne hj (fun e => hz (hinj z x b (by rw [hc, e]) hb)) hm
theorem keep_new {j b : Nat} {o1 o2 : Obj} (hlt : ∀ z b, ids z = some b → b < w0.heap.size) (hb : w0.heap.size ≤ b) (hj : H[j]? = some (some b, o1)) : ∀ x, (lab i).2 = some x → ∀ z c ob, z ≠ x → ids z = some c → (some c, ob) ∈ H → (some c, ob) ∈ H.set j (some b, o2) := fun x hx z c ob hz hc hm =>
  keep_ne hj (fun e => by have := hlt z c hc; omega) hm

/-- .. whatever an operation does that is known but for a choice. -/
def FAct (P : Program) (o : Oper) (w0 : World) (I : Nat → Option Obj) (S : Slots) (H : Heap) (X : Type) (v : X → Value) (H' : X → Heap) : Prop :=
  ∀ ρ, Val S ρ → ∀ w, Cls w0 I H w → (∃ x w', (execOp ρ o).run P w = .ok (.value (v x)) w' ∧ Cls w0 I (H' x) w') ∨ (∃ x w', (execOp ρ o).run P w = .ok .skip w' ∧ v x = undef ∧ Cls w0 I (H' x) w') ∨
    ∃ f args w1, (execOp ρ o).run P w = .ok (.enter f args) w1 ∧ Calls P f args w1 fun e w' => ∃ x, e = .returned (v x) ∧ Cls w0 I (H' x) w'
theorem DL.act {X : Type} {u : X → Value} {H' : X → Heap} (_hX : Nonempty X) (hi : ops[i]? = some o) (hw : Wn ops S o true) (hd : o.dst = some d) (hN : Nat.blt d N = true) (hk : (lab i).1 = .act) (hp : FAct P o w0 I S H X u H')
    (h : ∀ x, DK P N w0 I Kc ops lab ids l ((d, u x) :: S) (H' x)) : DK P N w0 I Kc ops lab ids (i :: l) S H := fun a ha => by
  show stepD P ops w0 I lab ids i _ a H
  unfold stepD
  rw [hi]
  intro _
  exact ⟨.act X u H', .inl ⟨hw N a ha, .inl hk, fun w hc => hp _ ha.val w hc⟩, fun x => by show listD _ _ _ _ _ _ _ _ _ _; rw [hd]; exact h x _ (ha.put (by simpa [Nat.blt_eq] using hN) (u x))⟩
/-- .. the same, never turned round with what comes behind. -/
theorem DL.actx {X : Type} {u : X → Value} {H' : X → Heap} (hi : ops[i]? = some o) (hw : Wn ops S o true) (hd : o.dst = some d) (hN : Nat.blt d N = true) (hk : (lab i).1 = .actx) (hp : FAct P o w0 I S H X u H')
    (h : ∀ x, DK P N w0 I Kc ops lab ids l ((d, u x) :: S) (H' x)) : DK P N w0 I Kc ops lab ids (i :: l) S H := fun a ha => by
  show stepD P ops w0 I lab ids i _ a H
  unfold stepD
  rw [hi]
  intro _
  exact ⟨.act X u H', .inl ⟨hw N a ha, .inr (.inl hk), fun w hc => hp _ ha.val w hc⟩, fun x => by show listD _ _ _ _ _ _ _ _ _ _; rw [hd]; exact h x _ (ha.put (by simpa [Nat.blt_eq] using hN) (u x))⟩

/-- .. the same, of an operation that keeps all that is owned. -/
theorem DL.keep {X : Type} {u : X → Value} {H' : X → Heap} (hkeep : ∀ x p, p ∈ H → p ∈ H' x) (hi : ops[i]? = some o) (hw : Wn ops S o true) (hd : o.dst = some d) (hN : Nat.blt d N = true) (hk : (lab i).1 = .keep) (hp : FAct P o w0 I S H X u H')
    (h : ∀ x, DK P N w0 I Kc ops lab ids l ((d, u x) :: S) (H' x)) : DK P N w0 I Kc ops lab ids (i :: l) S H := fun a ha => by
  show stepD P ops w0 I lab ids i _ a H
  unfold stepD
  rw [hi]
  intro _
  exact ⟨.act X u H', .inl ⟨hw N a ha, .inr (.inr (.inl ⟨hk, hkeep⟩)), fun w hc => hp _ ha.val w hc⟩, fun x => by show listD _ _ _ _ _ _ _ _ _ _; rw [hd]; exact h x _ (ha.put (by simpa [Nat.blt_eq] using hN) (u x))⟩

/-- .. the same, of an operation that looks at nothing that is owned. -/
theorem DL.free {X : Type} {u : X → Value} {H' : X → Heap} (hkeep : ∀ x p, p ∈ H → p ∈ H' x) (hi : ops[i]? = some o) (hw : Wn ops S o true) (hd : o.dst = some d) (hN : Nat.blt d N = true) (hk : (lab i).1 = .free) (hp : ∀ E, FAct P o w0 I S (E ++ H) X u fun x => E ++ H' x)
    (h : ∀ x, DK P N w0 I Kc ops lab ids l ((d, u x) :: S) (H' x)) : DK P N w0 I Kc ops lab ids (i :: l) S H := fun a ha => by
  show stepD P ops w0 I lab ids i _ a H
  unfold stepD
  rw [hi]
  intro _
  exact ⟨.act X u H', .inl ⟨hw N a ha, .inr (.inr (.inr ⟨hk, hkeep, fun E w hc => hp E _ ha.val w hc⟩)), fun w hc => hp [] _ ha.val w hc⟩, fun x => by show listD _ _ _ _ _ _ _ _ _ _; rw [hd]; exact h x _ (ha.put (by simpa [Nat.blt_eq] using hN) (u x))⟩

theorem listD_mono {w0 : World} {I : Nat → Option Obj} {ops : Array Oper} {lab : Lab} {ids : Nat → Option Nat} {Q : Act → Heap → Prop} (hQ : KMono w0 I Q) : ∀ l, KMono w0 I (listD P ops w0 I lab ids Q l)
  | [] => hQ
  | _ :: l => stepD_wk (listD_mono hQ l)
theorem DL.perm {H2 : Heap} (hp : H.Perm H2) (h : DK P N w0 I Kc ops lab ids l S H) : DK P N w0 I Kc ops lab ids l S H2 := fun a ha => (listD_mono Q_mono l).1 _ _ _ hp (h a ha)
def opAt (ops : Array Oper) (i : Nat) : Oper := match ops[i]? with
  | some o => o
  | none => default
def chk (ops : Array Oper) (N : Nat) (lab : Lab) (k : Kd → Bool) (i d : Nat) : Bool := match ops[i]? with
  | some o => o.guard.isNone && (match o.dst with | some e => Nat.beq e d | none => false) && Nat.blt d N && k (lab i).1
  | none => false
theorem chk_spec {k : Kd → Bool} (h : chk ops N lab k i d = true) : ∃ o, ops[i]? = some o ∧ opAt ops i = o ∧ o.guard = none ∧ o.dst = some d ∧ Nat.blt d N = true ∧ k (lab i).1 = true := by
  unfold chk at h
  cases ho : ops[i]? with
  | none => rw [ho] at h; cases h
  | some o =>
    rw [ho] at h
    simp only [Bool.and_eq_true] at h
    obtain ⟨⟨⟨h1, h2⟩, h3⟩, h4⟩ := h
    refine ⟨o, rfl, by unfold opAt; rw [ho], by simpa using h1, ?_, h3, h4⟩
    cases hd : o.dst with
    | none => rw [hd] at h2; cases h2
    | some e => rw [hd] at h2; rw [Nat.eq_of_beq_eq_true h2]
def isPure : Kd → Bool | .pure => true | _ => false
def isQuiet : Kd → Bool | .quiet => true | _ => false
theorem DL.pu (d : Nat) (v : Value) (hc : chk ops N lab isPure i d = true) (hp : FPure P (opAt ops i) S v) (h : DK P N w0 I Kc ops lab ids l ((d, v) :: S) H) : DK P N w0 I Kc ops lab ids (i :: l) S H := by
  obtain ⟨o, h1, h2, h3, h4, h5, h6⟩ := chk_spec hc
  rw [h2] at hp
  refine DL.pure h1 (Wn.none h3) h4 h5 ?_ hp h
  cases hk : (lab i).1 <;> rw [hk] at h6 <;> first | rfl | cases h6
theorem DL.qu (d : Nat) (v : Value) (hc : chk ops N lab isQuiet i d = true) (hp : FQuiet P (opAt ops i) w0 I S H v) (h : DK P N w0 I Kc ops lab ids l ((d, v) :: S) H) : DK P N w0 I Kc ops lab ids (i :: l) S H := by
  obtain ⟨o, h1, h2, h3, h4, h5, h6⟩ := chk_spec hc
  rw [h2] at hp
  refine DL.quiet h1 (Wn.none h3) h4 h5 ?_ hp h
  cases hk : (lab i).1 <;> rw [hk] at h6 <;> first | rfl | cases h6

theorem DL.not (hi : ops[i]? = some o) (hw : Wn ops S o false) (hd : o.dst = some d) (hN : Nat.blt d N = true) (h : DK P N w0 I Kc ops lab ids l ((d, undef) :: S) H) : DK P N w0 I Kc ops lab ids (i :: l) S H := fun a ha => by
  show stepD P ops w0 I lab ids i _ a H
  unfold stepD
  rw [hi]
  intro _
  exact ⟨.val undef, .inr ⟨hw N a ha, rfl⟩, by show listD _ _ _ _ _ _ _ _ _ _; rw [hd]; exact h _ (ha.put (by simpa [Nat.blt_eq] using hN) undef)⟩
/-! #### the beginning and the end -/

theorem calls_of_TT {fn : Func} {c : Code} {args : Array Value} {w : World} (hf : P.funcs[f]? = some fn) (hb : fn.body = some c) (hN : fn.ntmps = N) (hsz : Nat.ble args.size N = true) (hS : ∀ p ∈ S, args[p.1]? = some p.2)
    (h : TT P f R N w (heapOf w) [.code c] S []) : Calls P f args w R := by
  refine calls_of_T hf hb (h _ _ ⟨rfl, ?_, fun i v hi => ?_⟩ ⟨rfl, rfl, rfl, Nat.le_refl _, fun b o e => e, fun b o e => (by cases e), fun b o e => (by cases e), List.nodup_nil⟩)
  · have := Nat.le_of_ble_eq_true hsz
    simp; omega
  · have := hS (i, v) (get_mem hi)
    simp only at this ⊢
    rw [Array.getElem?_append_left (lt_of_get this)]; exact this

/-- One result. -/
def resOf (tmps : Array Value) : ResultVar → Sem Value
  | .tmp t => Pure.pure (tmps.getD t undef)
  | .cell c t => (asAddr (tmps.getD c undef)).bind fun a => loadVar t a

theorem results_eq (fn : Func) (tmps : Array Value) : results fn tmps = Sem.bind (fn.results.mapM (resOf tmps)) fun vs => Sem.pure (if h : vs.size = 1 then vs[0] else .tuple vs) := by
  unfold results
  have : ∀ g : ResultVar → Sem Value, (∀ x, g x = resOf tmps x) → (Sem.bind (fn.results.mapM g) fun vs => Sem.pure (if h : vs.size = 1 then vs[0] else .tuple vs)) = Sem.bind (fn.results.mapM (resOf tmps)) fun vs => Sem.pure (if h : vs.size = 1 then vs[0] else .tuple vs) := fun g hg => by rw [show g = resOf tmps from funext hg]
  exact this _ (fun x => by cases x <;> rfl)

/-- One result, as the slots and the blocks have it. -/
def ResV (P : Program) (N : Nat) (w0 : World) (I : Nat → Option Obj) (S : Slots) (H : Heap) (r : ResultVar) (v : Value) : Prop :=
  ∀ a w, Agree N S a → Cls w0 I H w → (resOf a.tmps r).run P w = .ok v w

theorem ResV.tmp {t : Nat} (h : get S t = some v) : ResV P N w0 I S H (.tmp t) v := fun a w ha hc => by
  have := ha.2.2 t v h
  simp only [resOf, Array.getD_eq_getD_getElem?, this]; rfl

theorem ResV.cell {c t t' b j n : Nat} {cs : Array Value} (ha : ∀ w, (isAgg t).run P w = .ok true w) (hs : ∀ w, (sizeOf t).run P w = .ok n w) (h : get S c = some (ptr b 0)) (hH : H[j]? = some (some b, .cells cs t' (0, 0))) (hn : cs.size = n) :
    ResV P N w0 I S H (.cell c t) (.agg cs) := fun a w hag hc => by
  have h1 := hag.2.2 c _ h
  simp only [resOf, Array.getD_eq_getD_getElem?, h1]
  have hb := hc.own b _ (List.mem_of_getElem? hH)
  show (loadVar t ⟨b, 0, none⟩).run P w = _
  show ((isAgg t).bind _).run P w = _
  rw [run_of_bind (ha w)]
  show (((sizeOf t).bind _)).run P w = _
  rw [run_of_bind (hs w)]
  refine (run_of_bind (run_loadCells (vs := cs.toList) (by simpa using hn) (fun k v hk => ?_))).trans (by simp)
  rw [cell_of hb, Nat.zero_add]; simpa using hk

theorem ResV.cell1 {c t t' b j off : Nat} {cs : Array Value} (ha : ∀ w, (isAgg t).run P w = .ok false w) (h : get S c = some (ptr b off)) (hH : H[j]? = some (some b, .cells cs t' (0, 0))) (hv : cs[off]? = some v) :
    ResV P N w0 I S H (.cell c t) v := fun a w hag hc => by
  have h1 := hag.2.2 c _ h
  simp only [resOf, Array.getD_eq_getD_getElem?, h1]
  have hb := hc.own b _ (List.mem_of_getElem? hH)
  show ((isAgg t).bind _).run P w = _
  rw [run_of_bind (ha w)]
  exact run_load (by rw [cell_of hb, hv])

theorem mapM_run {P : Program} {g : ResultVar → Sem Value} {w : World} : ∀ (rs : List ResultVar) (vs : List Value), rs.length = vs.length → (∀ (i : Nat) (r : ResultVar) (v : Value), rs[i]? = some r → vs[i]? = some v → (g r).run P w = .ok v w) → (rs.mapM g).run P w = .ok vs w
  | [], [], _, _ => rfl
  | r :: rs, v :: vs, hl, h => by
    rw [List.mapM_cons]
    refine (run_of_bind (h 0 r v rfl rfl)).trans ?_
    exact (run_of_bind (mapM_run rs vs (by simpa using hl) (fun i r v hr hv => h (i + 1) r v (by simpa using hr) (by simpa using hv)))).trans rfl

theorem fin_of {fn : Func} {a : Act} {w : World} {rs : List ResultVar} {vs : List Value} (v : Value) (hf : P.funcs[f]? = some fn) (hrs : fn.results = rs.toArray) (hl : rs.length = vs.length)
    (hv : (if h : vs.toArray.size = 1 then vs.toArray[0] else .tuple vs.toArray) = v) (hall : ∀ (i : Nat) (r : ResultVar) (u : Value), rs[i]? = some r → vs[i]? = some u → ResV P N w0 I S H r u) (ha : Agree N S a) (hc : Cls w0 I H w) (hR : R (.returned v) w) : Fin P f R a w := by
  refine ⟨ha.1, fn, v, hf, ?_, hR⟩
  rw [results_eq, hrs, List.mapM_toArray]
  have hm := mapM_run (P := P) (g := resOf a.tmps) rs vs hl (fun i r u hr hu => hall i r u hr hu a w ha hc)
  refine (run_of_bind (x := List.toArray <$> List.mapM (resOf a.tmps) rs) (a := vs.toArray) (w' := w) ?_).trans ?_
  · exact (run_of_bind hm).trans rfl
  rw [← hv]
  rfl

/-- What a function's contract says: 'v', if 'p' can be shown of it; and nothing that was there has turned. -/
def Post (p : Value → Prop) (w0 : World) (e : Ending) (w : World) : Prop := ∃ v, e = .returned v ∧ p v ∧ Below w0.heap.size w0 w

/-- A contract with one value, as a walk wants it. -/
theorem calls_value {g : FuncId} {args : Array Value} {w : World} (h : Calls P g args w (Post (fun u => u = v) w)) : Calls P g args w fun e w' => e = .returned v ∧ Below w.heap.size w w' :=
  h.mono fun e w' ⟨u, he, hu, hb⟩ => ⟨by rw [he, hu], hb⟩
end
end Go.HW
end

section
namespace Go.HW
open Go Go.RowKit
set_option linter.unusedVariables false
set_option linter.unusedSimpArgs false

def bodyOf (fn : Func) : Code := fn.body.getD .skip
def sub : List Nat → Code → Code
  | [], c => c
  | 0 :: p, .seq a _ => sub p a
  | 1 :: p, .seq _ b => sub p b
  | 0 :: p, .cond _ a _ => sub p a
  | 1 :: p, .cond _ _ b => sub p b
  | 0 :: p, .block _ c => sub p c
  | 0 :: p, .loop c => sub p c
  | 0 :: p, .scope c => sub p c
  | 0 :: p, .rangeFunc _ _ a _ => sub p a
  | 1 :: p, .rangeFunc _ _ _ b => sub p b
  | _, c => c
def opsOf : Code → Array Oper
  | .region _ ops _ => ops
  | _ => #[]

/-! ### lists of operands -/
def evs (S : Slots) : List Operand → Option (List Value)
  | [] => some []
  | x :: r => match ev S x, evs S r with
    | some v, some vs => some (v :: vs)
    | _, _ => none
theorem evs_val {S : Slots} {ρ : Operand → Value} (hρ : Val S ρ) : ∀ (xs : List Operand) (vs : List Value), evs S xs = some vs → xs.map ρ = vs
  | [], vs, h => by cases h; rfl
  | x :: r, vs, h => by
    unfold evs at h
    split at h
    · rename_i v us h1 h2
      cases h
      rw [List.map_cons, hρ _ _ h1, evs_val hρ r us h2]
    · cases h
theorem args_val {S : Slots} {xs : Array Operand} {vs : List Value} (h : evs S xs.toList = some vs) : ∀ ρ, Val S ρ → xs.map ρ = vs.toArray := fun ρ hρ => by
  have := evs_val hρ _ _ h
  exact Array.toList_inj.1 (by rw [Array.toList_map]; exact this)

def evps (S : Slots) : List (Nat × Operand) → Option (List (Nat × Value))
  | [] => some []
  | (i, x) :: r => match ev S x, evps S r with
    | some v, some vs => some ((i, v) :: vs)
    | _, _ => none
theorem evps_val {S : Slots} {ρ : Operand → Value} (hρ : Val S ρ) : ∀ (xs : List (Nat × Operand)) (vs : List (Nat × Value)), evps S xs = some vs → (xs.map fun p => (p.1, ρ p.2)) = vs
  | [], vs, h => by cases h; rfl
  | (i, x) :: r, vs, h => by
    unfold evps at h
    split at h
    · rename_i v us h1 h2
      cases h
      rw [List.map_cons, hρ _ _ h1, evps_val hρ r us h2]
    · cases h

section
variable {Kc : Act → World → Prop} {P : Program} {o : Oper} {S : Slots}

theorem p_build {t : TypeId} {parts : Array (Nat × Operand)} {vs : List (Nat × Value)} {v : Value} (hb : ∀ w, (Instr.build t vs.toArray).run P w = .ok v w) (ho : o.op = .build t parts) (hp : evps S parts.toList = some vs) : FPure P o S v := fun ρ hρ w => by
  simp only [execOp, ho]
  have : (parts.map fun x => (x.1, ρ x.2)) = vs.toArray := by
    exact Array.toList_inj.1 (by rw [Array.toList_map]; exact evps_val hρ _ _ hp)
  refine val_run ?_
  have h2 := hb w
  rw [← this] at h2
  exact h2

theorem run_part {e : TypeId} {cs : Array Value} {off : Nat} {v : Value} {w : World} (ha : ∀ w, (isAgg e).run P w = .ok false w) (hv : cs[off]? = some v) : (part e cs off).run P w = .ok v w := by
  unfold part
  refine (run_of_bind (ha w)).trans ?_
  simp only [Bool.false_eq_true, if_false, hv]; rfl

theorem all_range_beq : ∀ (xs ys : List Int), xs.length = ys.length → (List.range xs.length).all (fun i => xs.getD i 0 == ys.getD i 0) = (xs == ys)
  | [], [], _ => rfl
  | x :: xs, y :: ys, h => by
    have ih := all_range_beq xs ys (by simpa using h)
    rw [List.length_cons, List.range_succ_eq_map, List.all_cons, List.all_map]
    simp only [List.getD_cons_zero, Function.comp_def, List.getD_cons_succ, ih]
    simp [List.cons_beq_cons]
  | [], _ :: _, h => by simp at h
  | _ :: _, [], h => by simp at h

/-- Equality of rows of numbers. -/
theorem run_eqRow {t e : TypeId} {n d : Nat} {k : IntKind} {xs ys : List Int} (hu : P.underlying t = some (.array n e)) (hs : ∀ w, (sizeOf e).run P w = .ok 1 w) (ha : ∀ w, (isAgg e).run P w = .ok false w) (hue : P.underlying e = some (.int k))
    (hx : xs.length = n) (hy : ys.length = n) (w : World) : (Op.equalIn (d + 2) t (.agg (enc k xs)) (.agg (enc k ys))).run P w = .ok (xs == ys) w := by
  rw [← all_range_beq xs ys (hx.trans hy.symm), hx, List.range_eq_range', Op.equalIn]
  simp only [Sem.run_bind, run_underlying hu, Result.andThen_ok, hs, Std.Legacy.Range.forIn_eq_forIn_range', Std.Legacy.Range.size, Nat.sub_zero, Nat.add_sub_cancel, Nat.div_one]
  have hl : ∀ i ∈ List.range' 0 n 1, i < n := fun i hi => by simpa using (List.mem_range'_1.1 hi).2
  generalize List.range' 0 n 1 = l at hl ⊢
  induction l with
  | nil => simp
  | cons i l ih =>
    have hi : i < n := hl i (by simp)
    have px : (part e (enc k xs) (i * 1)).run P w = .ok (.int k (xs.getD i 0)) w := run_part ha (by rw [Nat.mul_one]; exact enc_get k (by omega))
    have py : (part e (enc k ys) (i * 1)).run P w = .ok (.int k (ys.getD i 0)) w := run_part ha (by rw [Nat.mul_one]; exact enc_get k (by omega))
    have pe : (Op.equalIn (d + 1) e (.int k (xs.getD i 0)) (.int k (ys.getD i 0))).run P w = .ok (xs.getD i 0 == ys.getD i 0) w := run_equalIn_int w d e k k _ _ hue
    simp only [List.forIn_cons, Sem.run_bind, px, py, pe, Result.andThen_ok, List.all_cons]
    cases hb : (xs.getD i 0 == ys.getD i 0)
    · simp
    · simp only [Bool.not_true, Bool.false_eq_true, if_false, Sem.run_pure, Result.andThen_ok, Bool.true_and]
      exact ih fun j hj => hl j (by simp [hj])

theorem p_eqAgg {T U : TypeId} {x y : Operand} {xs ys : Array Value} {b : Bool} (hm : P.eqGuardType P.depth T = false) (he : ∀ w, (Op.equalIn 10000 T (.agg xs) (.agg ys)).run P w = .ok b w)
    (ho : o.op = .binOp .eql T x y U) (hx : ev S x = some (.agg xs)) (hy : ev S y = some (.agg ys)) : FPure P o S (.bool b) := fun ρ hρ w => by
  simp only [execOp, ho, hρ _ _ hx, hρ _ _ hy]
  refine val_run ?_
  refine (run_of_bind (run_eqGuard_agg w .eql T x y xs ys hm)).trans ?_
  rw [run_eql_struct, he w]; rfl
end

/-! ### one more for loops -/
def nm {α β : Type} (x : α) (f : α → Option β) : Option β := f x
theorem nm_some {α β : Type} {x : α} {f : α → Option β} {r : β} (h : nm x f = some r) : ∃ a, a = x ∧ f a = some r := ⟨x, rfl, h⟩

section
variable {Kc : Act → World → Prop} {P : Program} {f : FuncId} {R : Ending → World → Prop} {N : Nat} {w0 : World} {I : Nat → Option Obj} {k k' : List Item} {S S' : Slots} {H H' : Heap} {ops : Array Oper} {l l2 : List Nat} {o : Oper} {lab : Lab} {ids : Nat → Option Nat}
theorem DL.cut (S' : Slots) (l2 : List Nat) (h1 : DK P N w0 I Kc ops lab ids l2 S' H) (h2 : DK P N w0 I Kc ops lab ids l2 S' H → DK P N w0 I Kc ops lab ids l S H) : DK P N w0 I Kc ops lab ids l S H := h2 h1
theorem TT.cut (k' : List Item) (S' : Slots) (H' : Heap) (h1 : TT P f R N w0 I k' S' H') (h2 : TT P f R N w0 I k' S' H' → TT P f R N w0 I k S H) : TT P f R N w0 I k S H := h2 h1

theorem p_pick_t {c x y : Operand} {p : Bool} {v : Value} (hp : p = true) (ho : o.op = .pick c x y) (hc : ev S c = some (.bool p)) (hx : ev S x = some v) : FPure P o S v := p_pick_true ho (by rw [hc, hp]) hx
theorem p_pick_f {c x y : Operand} {p : Bool} {v : Value} (hp : p = false) (ho : o.op = .pick c x y) (hc : ev S c = some (.bool p)) (hy : ev S y = some v) : FPure P o S v := p_pick_false ho (by rw [hc, hp]) hy
theorem Wn.yes {j t : Nat} {want p : Bool} {b : Bool} (hp : p = true) (hg : o.guard = Option.some (j, want)) (hj : (ops[j]?).bind (·.dst) = Option.some t) (ht : get S t = Option.some (.bool p)) (hb : (true == want) = b) : Wn ops S o b := Wn.some hg hj ht (by rw [hp]; exact hb)
theorem Wn.no {j t : Nat} {want p : Bool} {b : Bool} (hp : p = false) (hg : o.guard = Option.some (j, want)) (hj : (ops[j]?).bind (·.dst) = Option.some t) (ht : get S t = Option.some (.bool p)) (hb : (false == want) = b) : Wn ops S o b := Wn.some hg hj ht (by rw [hp]; exact hb)

end

/-- What a loop gives that may return. -/
def onw {A B Z : Type} (x : Option (A ⊕ B)) (f : A → Option Z) (g : B → Option Z) : Option Z := match x with
  | some (.inl a) => f a
  | some (.inr b) => g b
  | none => none
theorem onw_some {A B Z : Type} {x : Option (A ⊕ B)} {f : A → Option Z} {g : B → Option Z} {z : Z} (h : onw x f g = some z) : (∃ a, x = some (.inl a) ∧ f a = some z) ∨ (∃ b, x = some (.inr b) ∧ g b = some z) := by
  match x, h with
  | some (.inl a), h => exact .inl ⟨a, rfl, h⟩
  | some (.inr b), h => exact .inr ⟨b, rfl, h⟩
end Go.HW
end

section
namespace Go.HW
open Go Go.RowKit
set_option linter.unusedVariables false
set_option linter.unusedSimpArgs false

/-! ### math/bits -/
end Go.HW
end
