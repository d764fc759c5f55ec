import Derived.Test.YtfcedjmgddloiaaDoorHw12
namespace Go.HW
open Go Go.RowKit
set_option linter.unusedVariables false
set_option linter.unusedSimpArgs false

/-! ### shapes: how a value of a kind stands in cells -/
structure Shape (α : Type) where
  n : Nat
  pos : 0 < n
  rep : Mem → List Value → α → Prop
  len : ∀ {M l x}, rep M l x → l.length = n
  one : ∀ {M l x}, rep M l x → ∀ v ∈ l, v.oneCell' = true
  mono : ∀ {M M' l x}, Ext M M' → rep M l x → rep M' l x

theorem RowV.one {M : Mem} {v : Value} {size n : Nat} {cs : List Value} (h : RowV M v size n cs) : v.oneCell' = true := by
  obtain ⟨_, a, c, rfl, _⟩ := h; rfl

theorem one1 {l : List Value} {v : Value} (h : l = [v]) (h1 : v.oneCell' = true) : ∀ u ∈ l, u.oneCell' = true := fun u hu => by subst h; simp at hu; subst hu; exact h1
theorem len1 {l : List Value} {v : Value} (h : l = [v]) : l.length = 1 := by subst h; rfl
def Sh.int (k : IntKind) : Shape Int := { n := 1, pos := Nat.one_pos, rep := fun _ l x => l = [.int k x], len := len1, one := fun h => one1 h rfl, mono := fun _ h => h }
def Sh.bool : Shape Bool := { n := 1, pos := Nat.one_pos, rep := fun _ l x => l = [.bool x], len := len1, one := fun h => one1 h rfl, mono := fun _ h => h }
def Sh.str : Shape (List UInt8) := { n := 1, pos := Nat.one_pos, rep := fun _ l x => l = [Go.HW.str x], len := len1, one := fun h => one1 h rfl, mono := fun _ h => h }
/-- The i-th part of n cells. -/
def chunk (cs : List Value) (n i : Nat) : List Value := (cs.drop (i * n)).take n
theorem chunk_get {cs : List Value} {n i j : Nat} {q : Value} (h : (chunk cs n i)[j]? = some q) : cs[i * n + j]? = some q := by
  unfold chunk at h
  have hj : j < n := by
    rcases Nat.lt_or_ge j n with h' | h'
    · exact h'
    · rw [List.getElem?_eq_none (by simp; omega)] at h; cases h
  rw [List.getElem?_take_of_lt hj, List.getElem?_drop] at h
  exact h

/-- 'v' is a slice whose elements are 'xs', of this shape; they stay. -/
def RowS {α : Type} (s : Shape α) (M : Mem) (v : Value) (xs : List α) : Prop := ∃ cs, RowV M v s.n xs.length cs ∧ ∀ i x, xs[i]? = some x → s.rep M (chunk cs s.n i) x
theorem RowS.mono {α : Type} {s : Shape α} {M M' : Mem} {v : Value} {xs : List α} (h : RowS s M v xs) (he : Ext M M') : RowS s M' v xs := by
  obtain ⟨cs, h1, h2⟩ := h
  exact ⟨cs, h1.mono he, fun i x hx => s.mono he (h2 i x hx)⟩
theorem RowS.nil {α : Type} (s : Shape α) (M : Mem) : RowS s M (.slice none 0 0) [] := ⟨[], ⟨by simp, none, 0, rfl, Nat.le_refl _, .inl rfl⟩, fun i x hx => by simp at hx⟩
theorem IntRow.nil (k : IntKind) (M : Mem) : IntRow M k (.slice none 0 0) [] := ⟨by simp [encl], none, 0, rfl, Nat.le_refl _, .inl rfl⟩
theorem IntRow.mono {k : IntKind} {M M' : Mem} {v : Value} {xs : List Int} (h : IntRow M k v xs) (he : Ext M M') : IntRow M' k v xs := RowV.mono h he
theorem RowS.sl {α : Type} {s : Shape α} {M : Mem} {v : Value} {xs : List α} (h : RowS s M v xs) : ∃ a c, v = .slice a xs.length c := by
  obtain ⟨cs, h1, _⟩ := h; exact h1.sl
theorem RowS.some {α : Type} {s : Shape α} {M : Mem} {v : Value} {xs : List α} (h : RowS s M v xs) {i : Int} (h0 : 0 ≤ i) (h1 : i < (xs.length : Int)) : ∃ a c, v = .slice (Option.some a) xs.length c := by
  obtain ⟨cs, h2, _⟩ := h; exact h2.some h0 h1
/-- An own slice of such elements. -/
def OwnS {α : Type} (s : Shape α) (M : Mem) (v : Value) (cur : Array Value) (xs : List α) : Prop := ∃ cs, OwnV v cur s.n xs.length cs ∧ ∀ i x, xs[i]? = Option.some x → s.rep M (chunk cs s.n i) x
theorem OwnS.mono {α : Type} {s : Shape α} {M M' : Mem} {v : Value} {cur : Array Value} {xs : List α} (h : OwnS s M v cur xs) (he : Ext M M') : OwnS s M' v cur xs := by
  obtain ⟨cs, h1, h2⟩ := h
  exact ⟨cs, h1, fun i x hx => s.mono he (h2 i x hx)⟩
theorem OwnS.nil {α : Type} (s : Shape α) (M : Mem) : OwnS s M (.slice none 0 0) #[] [] := ⟨[], OwnV.nil s.n, fun i x hx => by simp at hx⟩
theorem OwnS.sl {α : Type} {s : Shape α} {M : Mem} {v : Value} {cur : Array Value} {xs : List α} (h : OwnS s M v cur xs) : ∃ a c, v = .slice a xs.length c := by
  obtain ⟨cs, h1, _⟩ := h; exact h1.slice
theorem OwnS.some {α : Type} {s : Shape α} {M : Mem} {v : Value} {cur : Array Value} {xs : List α} (h : OwnS s M v cur xs) {i : Int} (h0 : 0 ≤ i) (h1 : i < (xs.length : Int)) : ∃ a c, v = .slice (Option.some a) xs.length c := by
  obtain ⟨cs, h2, _⟩ := h; exact h2.some h0 h1
/-- What an own slice is when it stays. -/
theorem OwnV.stays {v : Value} {cur : Array Value} {e size n : Nat} {cs : List Value} (h : OwnV v cur size n cs) {M : Mem} (hM : ∀ b, v.ownBlock = Option.some b → M b = Option.some (.cells cur e (0, 0))) : RowV M v size n cs := by
  refine ⟨h.1, ?_⟩
  rcases h.2 with ⟨rfl, rfl⟩ | ⟨g, cap, rfl, k1, k2, k3, k4⟩
  · exact ⟨none, 0, rfl, Nat.le_refl _, .inl rfl⟩
  · refine ⟨_, cap, rfl, k1, .inr ⟨g, 0, cur, e, (0, 0), rfl, hM g rfl, fun i q hq => ?_⟩⟩
    rw [Nat.zero_add]
    rw [← k4] at hq
    have hk : i < n * size := by
      rcases Nat.lt_or_ge i (n * size) with hh | hh
      · exact hh
      · rw [List.getElem?_eq_none (by simp; omega)] at hq; cases hq
    rw [List.getElem?_take_of_lt hk] at hq
    simpa using hq
theorem OwnS.stays {α : Type} {s : Shape α} {v : Value} {cur : Array Value} {e : Nat} {xs : List α} {M M' : Mem} (h : OwnS s M v cur xs) (he : Ext M M') (hM : ∀ b, v.ownBlock = Option.some b → M' b = Option.some (.cells cur e (0, 0))) : RowS s M' v xs := by
  obtain ⟨cs, h1, h2⟩ := h
  exact ⟨cs, h1.stays hM, fun i x hx => s.mono he (h2 i x hx)⟩
theorem IntOwn.stays {k : IntKind} {v : Value} {cur : Array Value} {e : Nat} {xs : List Int} {M' : Mem} (h : IntOwn k v cur xs) (hM : ∀ b, v.ownBlock = Option.some b → M' b = Option.some (.cells cur e (0, 0))) : IntRow M' k v xs := OwnV.stays h hM

def Sh.row {α : Type} (s : Shape α) : Shape (List α) where
  n := 1
  pos := Nat.one_pos
  rep := fun M l xs => ∃ v, l = [v] ∧ RowS s M v xs
  len := fun ⟨_, h, _⟩ => len1 h
  one := fun ⟨_, h, hr⟩ => one1 h (Exists.elim hr fun _ h1 => h1.1.one)
  mono := fun he ⟨v, h, hr⟩ => ⟨v, h, hr.mono he⟩

/-! #### trees -/
inductive Tree (α : Type) where
  | node (a : α) (kids : List (Tree α))
def Tree.val {α : Type} : Tree α → α | .node a _ => a
def Tree.kids {α : Type} : Tree α → List (Tree α) | .node _ k => k
mutual
def Tree.depth {α : Type} : Tree α → Nat
  | .node _ ks => Tree.depths ks + 1
def Tree.depths {α : Type} : List (Tree α) → Nat
  | [] => 0
  | t :: r => Nat.max (Tree.depth t) (Tree.depths r)
end
inductive RepT {α : Type} (s : Shape α) (M : Mem) : List Value → Tree α → Prop
  | mk {l : List Value} {v : Value} {cs : List Value} {a : α} {kids : List (Tree α)} (h1 : s.rep M l a) (h2 : RowV M v (s.n + 1) kids.length cs) (h3 : ∀ i x, kids[i]? = Option.some x → RepT s M (chunk cs (s.n + 1) i) x) : RepT s M (l ++ [v]) (.node a kids)
theorem RepT.mono {α : Type} {s : Shape α} {M M' : Mem} (he : Ext M M') {l : List Value} {t : Tree α} (h : RepT s M l t) : RepT s M' l t := by
  induction h with
  | mk h1 h2 h3 ih => exact .mk (s.mono he h1) (h2.mono he) ih
/-! #### operations -/
section
variable {P : Program} {o : Oper} {S : Slots} {w0 : World} {I : Nat → Option Obj} {H : Heap}
/-- All cells of a slice's elements are single ones. -/
theorem chunks_one {α : Type} {s : Shape α} {M : Mem} {xs : List α} {cs : List Value} (hl : cs.length = xs.length * s.n) (h : ∀ i x, xs[i]? = Option.some x → s.rep M (chunk cs s.n i) x) : ∀ u ∈ cs, u.oneCell' = true := fun u hu => by
  obtain ⟨k, hk⟩ := List.mem_iff_getElem?.1 hu
  have hlt : k < xs.length * s.n := by
    rcases Nat.lt_or_ge k cs.length with h' | h'
    · omega
    · rw [List.getElem?_eq_none h'] at hk; cases hk
  have hd : k / s.n < xs.length := Nat.div_lt_of_lt_mul (by rw [Nat.mul_comm]; exact hlt)
  have hr := h (k / s.n) xs[k / s.n] (List.getElem?_eq_getElem hd)
  refine s.one hr u ?_
  refine List.mem_iff_getElem?.2 ⟨k % s.n, ?_⟩
  unfold chunk
  rw [List.getElem?_take_of_lt (Nat.mod_lt _ s.pos), List.getElem?_drop, Nat.mul_comm, Nat.div_add_mod]
  exact hk
theorem RowS.src {α : Type} {s : Shape α} {M : Mem} {v : Value} {xs : List α} (h : RowS s M v xs) : ∃ cs, (∀ i x, xs[i]? = Option.some x → s.rep M (chunk cs s.n i) x) ∧ ∀ w, Imm M w → Src w v xs.length s.n cs := by
  obtain ⟨cs, h1, h2⟩ := h
  exact ⟨cs, h2, fun w hi => (h1.world hi).src (chunks_one h1.1 h2)⟩
theorem OwnS.src {α : Type} {s : Shape α} {M : Mem} {v : Value} {cur : Array Value} {xs : List α} {e i : Nat} (h : OwnS s M v cur xs) (hH : H[i]? = Option.some (v.ownBlock, .cells cur e (0, 0))) : ∃ cs, (∀ i x, xs[i]? = Option.some x → s.rep M (chunk cs s.n i) x) ∧ ∀ w, Cls w0 I H w → Src w v xs.length s.n cs := by
  obtain ⟨cs, h1, h2⟩ := h
  exact ⟨cs, h2, fun w hc => OwnV.src h1 hc (List.mem_of_getElem? hH) (chunks_one h1.1 h2)⟩

variable {R : Ending → World → Prop} {N : Nat} {f : FuncId} {K : List Item} {ops : Array Oper} {lab : Lab} {ids : Nat → Option Nat} {l : List Nat} {i d : Nat}
end
end Go.HW
