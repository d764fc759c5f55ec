import Derived.Test.YtjomnicfcdkfdaaHw5
namespace Go.HW
open Go Go.RowKit
set_option linter.unusedVariables false
set_option linter.unusedSimpArgs false

def bodyOf (fn : Func) : Code := fn.body.getD .skip
def sub : List Nat → Code → Code
  | [], c => c
  | 0 :: p, .seq a _ => sub p a
  | 1 :: p, .seq _ b => sub p b
  | 0 :: p, .cond _ a _ => sub p a
  | 1 :: p, .cond _ _ b => sub p b
  | 0 :: p, .block _ c => sub p c
  | 0 :: p, .loop c => sub p c
  | 0 :: p, .scope c => sub p c
  | 0 :: p, .rangeFunc _ _ a _ => sub p a
  | 1 :: p, .rangeFunc _ _ _ b => sub p b
  | _, c => c
def opsOf : Code → Array Oper
  | .region _ ops _ => ops
  | _ => #[]

/-! ### lists of operands -/
def evs (S : Slots) : List Operand → Option (List Value)
  | [] => some []
  | x :: r => match ev S x, evs S r with
    | some v, some vs => some (v :: vs)
    | _, _ => none
theorem evs_val {S : Slots} {ρ : Operand → Value} (hρ : Val S ρ) : ∀ (xs : List Operand) (vs : List Value), evs S xs = some vs → xs.map ρ = vs
  | [], vs, h => by cases h; rfl
  | x :: r, vs, h => by
    unfold evs at h
    split at h
    · rename_i v us h1 h2
      cases h
      rw [List.map_cons, hρ _ _ h1, evs_val hρ r us h2]
    · cases h
theorem args_val {S : Slots} {xs : Array Operand} {vs : List Value} (h : evs S xs.toList = some vs) : ∀ ρ, Val S ρ → xs.map ρ = vs.toArray := fun ρ hρ => by
  have := evs_val hρ _ _ h
  exact Array.toList_inj.1 (by rw [Array.toList_map]; exact this)

def evps (S : Slots) : List (Nat × Operand) → Option (List (Nat × Value))
  | [] => some []
  | (i, x) :: r => match ev S x, evps S r with
    | some v, some vs => some ((i, v) :: vs)
    | _, _ => none
theorem evps_val {S : Slots} {ρ : Operand → Value} (hρ : Val S ρ) : ∀ (xs : List (Nat × Operand)) (vs : List (Nat × Value)), evps S xs = some vs → (xs.map fun p => (p.1, ρ p.2)) = vs
  | [], vs, h => by cases h; rfl
  | (i, x) :: r, vs, h => by
    unfold evps at h
    split at h
    · rename_i v us h1 h2
      cases h
      rw [List.map_cons, hρ _ _ h1, evps_val hρ r us h2]
    · cases h

section
variable {P : Program} {o : Oper} {S : Slots}

theorem p_build {t : TypeId} {parts : Array (Nat × Operand)} {vs : List (Nat × Value)} {v : Value} (hb : ∀ w, (Instr.build t vs.toArray).run P w = .ok v w) (ho : o.op = .build t parts) (hp : evps S parts.toList = some vs) : FPure P o S v := fun ρ hρ w => by
  simp only [execOp, ho]
  have : (parts.map fun x => (x.1, ρ x.2)) = vs.toArray := by
    exact Array.toList_inj.1 (by rw [Array.toList_map]; exact evps_val hρ _ _ hp)
  refine val_run ?_
  have h2 := hb w
  rw [← this] at h2
  exact h2

end

/-! ### one more for loops -/
theorem enc_at {k : IntKind} {xs : List Int} {n : Nat} {i : Int} (h : xs.length = n) (h0 : 0 ≤ i) (h1 : i < n) : (enc k xs)[i.toNat]? = some (.int k (xs.getD i.toNat 0)) := enc_get k (by omega)
/-- The address of a row's element, as 'p_indexAddr' tells it. -/
theorem idx_eq (i : Int) : 0 + i.toNat * 1 = i.toNat := by omega

section
variable {P : Program} {f : FuncId} {R : Ending → World → Prop} {N : Nat} {w0 : World} {I : Nat → Option Obj} {k k' : List Item} {S S' : Slots} {H H' : Heap} {ops : Array Oper} {l l2 : List Nat} {o : Oper} {lab : Lab} {ids : Nat → Option Nat}
theorem DL.cut (S' : Slots) (l2 : List Nat) (h1 : DL P f R N w0 I k ops lab ids l2 S' H) (h2 : DL P f R N w0 I k ops lab ids l2 S' H → DL P f R N w0 I k ops lab ids l S H) : DL P f R N w0 I k ops lab ids l S H := h2 h1
theorem TT.cut (k' : List Item) (S' : Slots) (H' : Heap) (h1 : TT P f R N w0 I k' S' H') (h2 : TT P f R N w0 I k' S' H' → TT P f R N w0 I k S H) : TT P f R N w0 I k S H := h2 h1

/-- An element's place in a row of single cells. -/
theorem p_ix {t e : TypeId} {x y : Operand} {b n : Nat} {k : IntKind} {i : Int} (hu : ∀ w, (underlying t).run P w = .ok (.array n e) w) (hs : ∀ w, (sizeOf e).run P w = .ok 1 w) (h0 : 0 ≤ i) (h1 : i < n)
    (ho : o.op = .indexAddr t x y) (hx : ev S x = some (ptr b 0)) (hy : ev S y = some (.int k i)) : FPure P o S (ptr b i.toNat) := by
  have := p_indexAddr (P := P) hu hs h0 h1 ho hx hy
  rwa [idx_eq] at this
theorem f_storeE {t t' : TypeId} {x y : Operand} {b off j : Nat} {k : IntKind} {xs : List Int} {a : Int} (hs : ∀ w, (sizeOf t).run P w = .ok 1 w) (hH : H[j]? = some (some b, .cells (enc k xs) t' (0, 0))) (hl : off < xs.length)
    (ho : o.op = .store t x y) (hx : ev S x = some (ptr b off)) (hy : ev S y = some (.int k a)) : FPut P o w0 I S H (H.set j (some b, .cells (enc k (xs.set off a)) t' (0, 0))) := by
  have := f_store (P := P) (w0 := w0) (I := I) hs hH (v := .int k a) rfl (by rw [enc_size]; exact hl) trivial ho hx hy
  rwa [enc_set] at this
end

end Go.HW
