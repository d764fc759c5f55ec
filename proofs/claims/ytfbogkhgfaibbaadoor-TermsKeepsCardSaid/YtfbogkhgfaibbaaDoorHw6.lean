import Derived.Test.YtfbogkhgfaibbaaDoorHw5
namespace Go.HW
open Go Go.RowKit
set_option linter.unusedVariables false
set_option linter.unusedSimpArgs false

def bodyOf (fn : Func) : Code := fn.body.getD .skip
def sub : List Nat → Code → Code
  | [], c => c
  | 0 :: p, .seq a _ => sub p a
  | 1 :: p, .seq _ b => sub p b
  | 0 :: p, .cond _ a _ => sub p a
  | 1 :: p, .cond _ _ b => sub p b
  | 0 :: p, .block _ c => sub p c
  | 0 :: p, .loop c => sub p c
  | 0 :: p, .scope c => sub p c
  | 0 :: p, .rangeFunc _ _ a _ => sub p a
  | 1 :: p, .rangeFunc _ _ _ b => sub p b
  | _, c => c
def opsOf : Code → Array Oper
  | .region _ ops _ => ops
  | _ => #[]

/-! ### lists of operands -/
def evs (S : Slots) : List Operand → Option (List Value)
  | [] => some []
  | x :: r => match ev S x, evs S r with
    | some v, some vs => some (v :: vs)
    | _, _ => none
theorem evs_val {S : Slots} {ρ : Operand → Value} (hρ : Val S ρ) : ∀ (xs : List Operand) (vs : List Value), evs S xs = some vs → xs.map ρ = vs
  | [], vs, h => by cases h; rfl
  | x :: r, vs, h => by
    unfold evs at h
    split at h
    · rename_i v us h1 h2
      cases h
      rw [List.map_cons, hρ _ _ h1, evs_val hρ r us h2]
    · cases h
theorem args_val {S : Slots} {xs : Array Operand} {vs : List Value} (h : evs S xs.toList = some vs) : ∀ ρ, Val S ρ → xs.map ρ = vs.toArray := fun ρ hρ => by
  have := evs_val hρ _ _ h
  exact Array.toList_inj.1 (by rw [Array.toList_map]; exact this)

def evps (S : Slots) : List (Nat × Operand) → Option (List (Nat × Value))
  | [] => some []
  | (i, x) :: r => match ev S x, evps S r with
    | some v, some vs => some ((i, v) :: vs)
    | _, _ => none
theorem evps_val {S : Slots} {ρ : Operand → Value} (hρ : Val S ρ) : ∀ (xs : List (Nat × Operand)) (vs : List (Nat × Value)), evps S xs = some vs → (xs.map fun p => (p.1, ρ p.2)) = vs
  | [], vs, h => by cases h; rfl
  | (i, x) :: r, vs, h => by
    unfold evps at h
    split at h
    · rename_i v us h1 h2
      cases h
      rw [List.map_cons, hρ _ _ h1, evps_val hρ r us h2]
    · cases h

section
variable {Kc : Act → World → Prop} {P : Program} {o : Oper} {S : Slots}

theorem p_build {t : TypeId} {parts : Array (Nat × Operand)} {vs : List (Nat × Value)} {v : Value} (hb : ∀ w, (Instr.build t vs.toArray).run P w = .ok v w) (ho : o.op = .build t parts) (hp : evps S parts.toList = some vs) : FPure P o S v := fun ρ hρ w => by
  simp only [execOp, ho]
  have : (parts.map fun x => (x.1, ρ x.2)) = vs.toArray := by
    exact Array.toList_inj.1 (by rw [Array.toList_map]; exact evps_val hρ _ _ hp)
  refine val_run ?_
  have h2 := hb w
  rw [← this] at h2
  exact h2

end

/-! ### one more for loops -/
def nm {α β : Type} (x : α) (f : α → Option β) : Option β := f x
theorem nm_some {α β : Type} {x : α} {f : α → Option β} {r : β} (h : nm x f = some r) : ∃ a, a = x ∧ f a = some r := ⟨x, rfl, h⟩

section
variable {Kc : Act → World → Prop} {P : Program} {f : FuncId} {R : Ending → World → Prop} {N : Nat} {w0 : World} {I : Nat → Option Obj} {k k' : List Item} {S S' : Slots} {H H' : Heap} {ops : Array Oper} {l l2 : List Nat} {o : Oper} {lab : Lab} {ids : Nat → Option Nat}
theorem DL.cut (S' : Slots) (l2 : List Nat) (h1 : DK P N w0 I Kc ops lab ids l2 S' H) (h2 : DK P N w0 I Kc ops lab ids l2 S' H → DK P N w0 I Kc ops lab ids l S H) : DK P N w0 I Kc ops lab ids l S H := h2 h1
theorem TT.cut (k' : List Item) (S' : Slots) (H' : Heap) (h1 : TT P f R N w0 I k' S' H') (h2 : TT P f R N w0 I k' S' H' → TT P f R N w0 I k S H) : TT P f R N w0 I k S H := h2 h1

theorem p_pick_t {c x y : Operand} {p : Bool} {v : Value} (hp : p = true) (ho : o.op = .pick c x y) (hc : ev S c = some (.bool p)) (hx : ev S x = some v) : FPure P o S v := p_pick_true ho (by rw [hc, hp]) hx
theorem p_pick_f {c x y : Operand} {p : Bool} {v : Value} (hp : p = false) (ho : o.op = .pick c x y) (hc : ev S c = some (.bool p)) (hy : ev S y = some v) : FPure P o S v := p_pick_false ho (by rw [hc, hp]) hy
theorem Wn.yes {j t : Nat} {want p : Bool} {b : Bool} (hp : p = true) (hg : o.guard = Option.some (j, want)) (hj : (ops[j]?).bind (·.dst) = Option.some t) (ht : get S t = Option.some (.bool p)) (hb : (true == want) = b) : Wn ops S o b := Wn.some hg hj ht (by rw [hp]; exact hb)
theorem Wn.no {j t : Nat} {want p : Bool} {b : Bool} (hp : p = false) (hg : o.guard = Option.some (j, want)) (hj : (ops[j]?).bind (·.dst) = Option.some t) (ht : get S t = Option.some (.bool p)) (hb : (false == want) = b) : Wn ops S o b := Wn.some hg hj ht (by rw [hp]; exact hb)

end

/-- What a loop gives that may return. -/
def onw {A B Z : Type} (x : Option (A ⊕ B)) (f : A → Option Z) (g : B → Option Z) : Option Z := match x with
  | some (.inl a) => f a
  | some (.inr b) => g b
  | none => none
theorem onw_some {A B Z : Type} {x : Option (A ⊕ B)} {f : A → Option Z} {g : B → Option Z} {z : Z} (h : onw x f g = some z) : (∃ a, x = some (.inl a) ∧ f a = some z) ∨ (∃ b, x = some (.inr b) ∧ g b = some z) := by
  match x, h with
  | some (.inl a), h => exact .inl ⟨a, rfl, h⟩
  | some (.inr b), h => exact .inr ⟨b, rfl, h⟩
end Go.HW
