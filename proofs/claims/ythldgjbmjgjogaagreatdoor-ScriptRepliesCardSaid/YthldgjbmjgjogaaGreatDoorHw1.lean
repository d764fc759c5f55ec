import Derived.WalkKit
import Derived.Deep.Quiet
import Derived.StillTail
import Derived.Below
namespace Go.HW
set_option linter.unusedVariables false
set_option linter.unusedSimpArgs false
open Go Go.RowKit

/-! ### running a list of what is left to do -/

/-- From the frame with this list of things to do, function 'f' ends so that 'R' holds. -/
def T (P : Program) (f : FuncId) (R : Ending → World → Prop) (todo : List Item) (a : Act) (w : World) : Prop :=
  ∀ (b : Frame) (cs : List Frame), b.fn = f → b.kind = .normal →
    ∃ e w' fr, R e w' ∧ Comes P (lone (b.at a todo) cs w) (lone fr cs w') e ∧ fr.fn = f ∧ fr.leaving P w' e

section
variable {P : Program} {f : FuncId} {R : Ending → World → Prop} {k : List Item} {a : Act} {w : World}

theorem T.of_step {todo todo' : List Item} {a' : Act} {w' : World} (hs : ∀ (b : Frame) (cs : List Frame), b.fn = f → step P (lone (b.at a todo) cs w) = .next (lone (b.at a' todo') cs w'))
    (h : T P f R todo' a' w') : T P f R todo a w := fun b cs hb hk =>
  let ⟨e, w2, fr, hR, hc, hf, hl⟩ := h b cs hb hk
  ⟨e, w2, fr, hR, hc.of_steps (.one (hs b cs hb)), hf, hl⟩

theorem T.seq {x y : Code} (h : T P f R (.code x :: .code y :: k) a w) : T P f R (.code (.seq x y) :: k) a w :=
  h.of_step fun _ _ _ => step_seq
theorem T.skip (h : T P f R k a w) : T P f R (.code .skip :: k) a w := h.of_step fun _ _ _ => step_skip
theorem T.label {l : Nat} (h : T P f R k a w) : T P f R (.code (.label l) :: k) a w := h.of_step fun _ _ _ => step_label
theorem T.block {id : Nat} {c : Code} (h : T P f R (.code c :: .inBlock id :: k) a w) : T P f R (.code (.block id c) :: k) a w :=
  h.of_step fun _ _ _ => step_block
theorem T.inBlock {id : Nat} (h : T P f R k a w) : T P f R (.inBlock id :: k) a w := h.of_step fun _ _ _ => step_inBlock
theorem T.loop {c : Code} (h : T P f R (.code c :: .inLoop c :: k) a w) : T P f R (.code (.loop c) :: k) a w := h.of_step fun _ _ _ => step_loop
theorem T.inLoop {c : Code} (h : T P f R (.code c :: .inLoop c :: k) a w) : T P f R (.inLoop c :: k) a w := h.of_step fun _ _ _ => step_inLoop
theorem T.exit {id : Nat} {k' : List Item} (he : exitTo id k = some k') (h : T P f R k' a w) : T P f R (.code (.exit id) :: k) a w :=
  h.of_step fun _ _ _ => step_exit he
theorem T.goto {l : Nat} {k' : List Item} (he : gotoIn l k = some k') (h : T P f R k' a w) : T P f R (.code (.goto l) :: k) a w :=
  h.of_step fun _ _ _ => step_goto he
theorem T.cond {c : Operand} {x y : Code} {t : Bool} (hc : a.eval c = .bool t) (h : T P f R (.code (if t then x else y) :: k) a w) : T P f R (.code (.cond c x y) :: k) a w :=
  h.of_step fun _ _ _ => step_cond hc
theorem T.scope {c : Code} (hs : ∀ (b : Frame) (cs : List Frame), step P (lone (b.at a (.code (.scope c) :: k)) cs w) = .next (lone (b.at a (.code c :: .inScope c :: k)) cs w))
    (h : T P f R (.code c :: .inScope c :: k) a w) : T P f R (.code (.scope c) :: k) a w := h.of_step fun b cs _ => hs b cs

/-- What the function's end asks. -/
def Fin (P : Program) (f : FuncId) (R : Ending → World → Prop) (a : Act) (w : World) : Prop :=
  a.defers = [] ∧ ∃ fn v, P.funcs[f]? = some fn ∧ (results fn a.tmps).run P w = .ok v w ∧ R (.returned v) w

theorem T.nil (h : Fin P f R a w) : T P f R [] a w := fun b cs hb hk => by
  obtain ⟨hd, fn, v, hf, hr, hR⟩ := h
  exact ⟨.returned v, w, _, hR, Steps.one step_end, hb, rfl, hd, hk, fn, by rw [show ({ b.at a [] with mode := .returning } : Frame).fn = b.fn from rfl, hb]; exact hf, hr⟩

theorem T.ret (h : Fin P f R a w) : T P f R (.code .ret :: k) a w := fun b cs hb hk => by
  obtain ⟨hd, fn, v, hf, hr, hR⟩ := h
  exact ⟨.returned v, w, _, hR, Steps.one step_ret, hb, rfl, hd, hk, fn, by rw [show ({ b.at a (.code .ret :: k) with mode := .returning } : Frame).fn = b.fn from rfl, hb]; exact hf, hr⟩

theorem T.region {id : Nat} {ops : Array Oper} {d : Bool}
    (h : (Code.region id ops d).wp P (fun e a' w' => e = .normal ∧ T P f R k a' w') a w) : T P f R (.code (.region id ops d) :: k) a w := fun b cs hb hk => by
  obtain ⟨e, a', w', ⟨rfl, hT⟩, harr⟩ := h b k cs
  obtain ⟨e2, w2, fr, hR, hc, hf, hl⟩ := hT b cs hb hk
  exact ⟨e2, w2, fr, hR, hc.of_steps harr, hf, hl⟩

theorem calls_of_T {fn : Func} {c : Code} {args : Array Value} (hf : P.funcs[f]? = some fn) (hb : fn.body = some c)
    (h : T P f R [.code c] { tmps := args ++ Array.replicate (fn.ntmps - args.size) undef, defers := [] } w) : Calls P f args w R := by
  intro cs
  let b : Frame := { (default : Frame) with fn := f, kind := .normal }
  have henter : Frame.enter P f args .normal = b.at { tmps := args ++ Array.replicate (fn.ntmps - args.size) undef, defers := [] } [.code c] := by
    simp [Frame.enter, Frame.at, hf, hb, b]
  obtain ⟨e, w', fr, hR, hc, hfn, hl⟩ := h b cs rfl rfl
  rw [henter]
  exact ⟨e, w', fr, hR, hc, hfn, hl⟩
end

/-! ### the slots that are known; the blocks that are owned -/

/-- Slots and what they hold, the newest first. -/
abbrev Slots := List (Nat × Value)

def get : Slots → Nat → Option Value
  | [], _ => none
  | (j, v) :: r, i => match Nat.beq j i with
    | true => some v
    | false => get r i

def Agree (N : Nat) (S : Slots) (a : Act) : Prop := a.defers = [] ∧ a.tmps.size = N ∧ ∀ i v, get S i = some v → a.tmps[i]? = some v

theorem Agree.put {N : Nat} {S : Slots} {a : Act} (h : Agree N S a) {d : Nat} (hd : d < N) (v : Value) : Agree N ((d, v) :: S) (a.put (some d) v) := by
  obtain ⟨h1, h2, h3⟩ := h
  refine ⟨h1, by simp [Act.put, h2], fun i u hi => ?_⟩
  simp only [get] at hi
  simp only [Act.put]
  split at hi
  · rename_i hb
    have : d = i := Nat.eq_of_beq_eq_true hb
    subst this
    cases hi
    rw [Array.getElem?_setIfInBounds_self_of_lt (by omega)]
  · rename_i hb
    have : d ≠ i := Nat.ne_of_beq_eq_false hb
    rw [Array.getElem?_setIfInBounds_ne this]
    exact h3 i u hi

theorem Agree.none {N : Nat} {S : Slots} {a : Act} (h : Agree N S a) (v : Value) : Agree N S (a.put none v) := h

/-- Is each of these slots known to hold this? -/
def Sub (S' S : Slots) : Prop := ∀ p ∈ S', get S p.1 = some p.2
theorem get_mem {S : Slots} {i : Nat} {v : Value} (h : get S i = some v) : (i, v) ∈ S := by
  induction S with
  | nil => cases h
  | cons p r ih =>
    obtain ⟨j, u⟩ := p
    simp only [get] at h
    split at h
    · rename_i hb
      have := Nat.eq_of_beq_eq_true hb
      cases h; subst this; exact List.mem_cons_self
    · exact List.mem_cons_of_mem _ (ih h)
theorem Agree.sub {N : Nat} {S S' : Slots} {a : Act} (h : Agree N S a) (hs : Sub S' S) : Agree N S' a :=
  ⟨h.1, h.2.1, fun i v hi => h.2.2 i v (hs (i, v) (get_mem hi))⟩
theorem Sub.nil (S : Slots) : Sub [] S := fun _ h => by cases h
theorem Sub.cons {S' S : Slots} {i : Nat} {v : Value} (h : get S i = some v) (hs : Sub S' S) : Sub ((i, v) :: S') S := fun p hp => by
  cases hp with
  | head => exact h
  | tail _ h' => exact hs p h'

/-- An operand's value, as far as it is known. -/
def ev (S : Slots) : Operand → Option Value
  | .tmp t => get S t
  | .const v => some v
  | .global g => some (.pointer (some ⟨g, 0, none⟩))
  | .func f => some (.func (.func f) #[] #[])

theorem Agree.eval {N : Nat} {S : Slots} {a : Act} (h : Agree N S a) {x : Operand} {v : Value} (hx : ev S x = some v) : a.eval x = v := by
  cases x with
  | tmp t => have := h.2.2 t v hx; simp [Act.eval, this]
  | const u => exact Option.some.inj hx
  | global g => exact Option.some.inj hx
  | func g => exact Option.some.inj hx

/-- Blocks and what they hold; 'none': nothing is owned there. -/
abbrev Heap := List (Option Nat × Obj)

/-- The world holds what nobody writes any more. -/
def Imm (I : Nat → Option Obj) (w : World) : Prop := ∀ b o, I b = some o → w.heap[b]? = some o

/-- A world in which the call stands: of the world 'w0' in which it began nothing has turned but what it owns; 'I': blocks that nobody will write any more; 'H': blocks that it owns. -/
structure Cls (w0 : World) (I : Nat → Option Obj) (H : Heap) (w : World) : Prop where
  os : w.os = w0.os
  tape : w.tape = w0.tape
  output : w.output = w0.output
  size : w0.heap.size ≤ w.heap.size
  imm : Imm I w
  own : ∀ b o, (some b, o) ∈ H → w.heap[b]? = some o
  disj : ∀ b o, (some b, o) ∈ H → I b = none
  nodup : (H.filterMap Prod.fst).Nodup

theorem lt_of_get {α : Type} {h : Array α} {b : Nat} {o : α} (e : h[b]? = some o) : b < h.size := by
  rcases Nat.lt_or_ge b h.size with h' | h'
  · exact h'
  · simp [Array.getElem?_eq_none h'] at e

theorem mem_ids {H : Heap} {b : Nat} : b ∈ H.filterMap Prod.fst ↔ ∃ o, (some b, o) ∈ H := by
  rw [List.mem_filterMap]
  constructor
  · rintro ⟨⟨x, o⟩, hm, he⟩
    simp only at he
    subst he
    exact ⟨o, hm⟩
  · rintro ⟨o, hm⟩
    exact ⟨_, hm, rfl⟩

theorem ids_unique : ∀ {H : Heap} {i j b : Nat} {o u : Obj}, (H.filterMap Prod.fst).Nodup → H[i]? = some (some b, o) → H[j]? = some (some b, u) → i = j
  | [], i, j, b, o, u, _, hi, _ => by simp at hi
  | p :: H, 0, 0, b, o, u, _, _, _ => rfl
  | p :: H, 0, j + 1, b, o, u, hn, hi, hj => by
    simp only [List.getElem?_cons_zero, Option.some.injEq] at hi
    subst hi
    simp only [List.filterMap_cons] at hn
    simp only [List.getElem?_cons_succ] at hj
    exact absurd (mem_ids.2 ⟨u, List.mem_of_getElem? hj⟩) (List.nodup_cons.1 hn).1
  | p :: H, i + 1, 0, b, o, u, hn, hi, hj => by
    simp only [List.getElem?_cons_zero, Option.some.injEq] at hj
    subst hj
    simp only [List.filterMap_cons] at hn
    simp only [List.getElem?_cons_succ] at hi
    exact absurd (mem_ids.2 ⟨o, List.mem_of_getElem? hi⟩) (List.nodup_cons.1 hn).1
  | p :: H, i + 1, j + 1, b, o, u, hn, hi, hj => by
    simp only [List.getElem?_cons_succ] at hi hj
    have hn' : (H.filterMap Prod.fst).Nodup := by
      simp only [List.filterMap_cons] at hn
      split at hn
      · exact hn
      · exact (List.nodup_cons.1 hn).2
    rw [ids_unique hn' hi hj]

/-- A callee turned nothing that was there. -/
theorem Cls.below {w0 : World} {I : Nat → Option Obj} {H : Heap} {w w' : World} (h : Cls w0 I H w) (hb : Below w.heap.size w w') : Cls w0 I H w' :=
  ⟨hb.os.trans h.os, hb.tape.trans h.tape, hb.output.trans h.output, Nat.le_trans h.size hb.size,
    fun b o e => by have := h.imm b o e; rw [hb.block b (lt_of_get this)]; exact this,
    fun b o e => by have := h.own b o e; rw [hb.block b (lt_of_get this)]; exact this, h.disj, h.nodup⟩

theorem Cls.alloc {w0 : World} {I : Nat → Option Obj} {H : Heap} {w : World} (h : Cls w0 I H w) (o : Obj) : Cls w0 I ((some w.heap.size, o) :: H) (w.alloc o) := by
  have hlt : ∀ b u, w.heap[b]? = some u → (w.alloc o).heap[b]? = some u := fun b u e => by
    rw [Below.heap_alloc _ _ _ (lt_of_get e)]; exact e
  refine ⟨h.os, h.tape, h.output, Nat.le_trans h.size (by show w.heap.size ≤ (w.heap.push o).size; simp), fun b u e => hlt b u (h.imm b u e), fun b u e => ?_, fun b u e => ?_, ?_⟩
  · cases e with
    | head => show (w.heap.push o)[w.heap.size]? = some o; simp
    | tail _ e => exact hlt b u (h.own b u e)
  · cases e with
    | head =>
      cases hI : I w.heap.size with
      | none => rfl
      | some u => have := lt_of_get (h.imm _ _ hI); omega
    | tail _ e => exact h.disj b u e
  · simp only [List.filterMap_cons]
    refine List.nodup_cons.2 ⟨fun hm => ?_, h.nodup⟩
    obtain ⟨u, hu⟩ := mem_ids.1 hm
    have := lt_of_get (h.own _ _ hu)
    omega

/-- Nothing is owned: told or not. -/
theorem Cls.nothing {w0 : World} {I : Nat → Option Obj} {H : Heap} {w : World} (h : Cls w0 I H w) (o : Obj) : Cls w0 I ((none, o) :: H) w :=
  ⟨h.os, h.tape, h.output, h.size, h.imm, fun b u e => h.own b u (by simpa using e), fun b u e => h.disj b u (by simpa using e), by simpa using h.nodup⟩

/-- Fewer owned blocks. -/
theorem Cls.fewer {w0 : World} {I : Nat → Option Obj} {H H' : Heap} {w : World} (h : Cls w0 I H w) (hs : H'.Sublist H) : Cls w0 I H' w :=
  ⟨h.os, h.tape, h.output, h.size, h.imm, fun b o e => h.own b o (hs.subset e), fun b o e => h.disj b o (hs.subset e), h.nodup.sublist (hs.filterMap _)⟩

theorem set_ids {H : Heap} {i : Nat} {b : Option Nat} {o o' : Obj} (hi : H[i]? = some (b, o)) : (H.set i (b, o')).filterMap Prod.fst = H.filterMap Prod.fst := by
  have hilt : i < H.length := by
    rcases Nat.lt_or_ge i H.length with h' | h'
    · exact h'
    · rw [List.getElem?_eq_none h'] at hi; cases hi
  have hget : H[i] = (b, o) := by rw [List.getElem?_eq_getElem hilt] at hi; exact Option.some.inj hi
  have : (H.set i (b, o')).map Prod.fst = H.map Prod.fst := by
    rw [List.map_set]
    apply List.ext_getElem?
    intro j
    rw [List.getElem?_set]
    by_cases hj : i = j
    · subst hj
      simp [hilt, hget]
    · simp [hj]
  have e : ∀ l : Heap, l.filterMap Prod.fst = (l.map Prod.fst).filterMap id := fun l => by rw [List.filterMap_map]; rfl
  rw [e, e, this]

/-- The world is turned in one owned block. -/
theorem Cls.setObj {w0 : World} {I : Nat → Option Obj} {H : Heap} {w w' : World} (h : Cls w0 I H w) {i b : Nat} {o o' : Obj} (hi : H[i]? = some (some b, o))
    (hos : w'.os = w.os) (ht : w'.tape = w.tape) (hout : w'.output = w.output) (hsz : w'.heap.size = w.heap.size) (hb : w'.heap[b]? = some o') (hne : ∀ c, c ≠ b → w'.heap[c]? = w.heap[c]?) :
    Cls w0 I (H.set i (some b, o')) w' := by
  have hmem : (some b, o) ∈ H := List.mem_of_getElem? hi
  have hIb := h.disj b o hmem
  have hilt : i < H.length := by
    rcases Nat.lt_or_ge i H.length with h' | h'
    · exact h'
    · rw [List.getElem?_eq_none h'] at hi; cases hi
  have hmem' : ∀ c u, (some c, u) ∈ H.set i (some b, o') → (c = b ∧ u = o') ∨ (c ≠ b ∧ (some c, u) ∈ H) := fun c u hm => by
    obtain ⟨j, hj⟩ := List.mem_iff_getElem?.1 hm
    rw [List.getElem?_set] at hj
    by_cases hij : i = j
    · subst hij; simp [hilt] at hj; exact Or.inl ⟨hj.1.symm, hj.2.symm⟩
    · simp [hij] at hj
      refine Or.inr ⟨fun hc => hij ?_, List.mem_of_getElem? hj⟩
      subst hc
      exact ids_unique h.nodup hi hj
  refine ⟨hos.trans h.os, ht.trans h.tape, hout.trans h.output, by rw [hsz]; exact h.size, fun c u e => ?_, fun c u e => ?_, fun c u e => ?_, by rw [set_ids hi]; exact h.nodup⟩
  · have hc : c ≠ b := fun hc => by subst hc; rw [hIb] at e; cases e
    rw [hne c hc]; exact h.imm c u e
  · rcases hmem' c u e with ⟨rfl, rfl⟩ | ⟨hc, hm⟩
    · exact hb
    · rw [hne c hc]; exact h.own c u hm
  · rcases hmem' c u e with ⟨rfl, rfl⟩ | ⟨_, hm⟩
    · exact hIb
    · exact h.disj c u hm

end Go.HW
