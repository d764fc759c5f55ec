import Derived.Test.YtfbogkhgfaibbaaDoorHw12
namespace Go.HW
open Go Go.RowKit
set_option linter.unusedVariables false
set_option linter.unusedSimpArgs false

/-! ### shapes: how a value of a kind stands in cells -/
structure Shape (α : Type) where
  n : Nat
  pos : 0 < n
  rep : Mem → List Value → α → Prop
  len : ∀ {M l x}, rep M l x → l.length = n
  one : ∀ {M l x}, rep M l x → ∀ v ∈ l, v.oneCell' = true
  mono : ∀ {M M' l x}, Ext M M' → rep M l x → rep M' l x

theorem RowV.one {M : Mem} {v : Value} {size n : Nat} {cs : List Value} (h : RowV M v size n cs) : v.oneCell' = true := by
  obtain ⟨_, a, c, rfl, _⟩ := h; rfl

theorem one1 {l : List Value} {v : Value} (h : l = [v]) (h1 : v.oneCell' = true) : ∀ u ∈ l, u.oneCell' = true := fun u hu => by subst h; simp at hu; subst hu; exact h1
theorem len1 {l : List Value} {v : Value} (h : l = [v]) : l.length = 1 := by subst h; rfl
def Sh.int (k : IntKind) : Shape Int := { n := 1, pos := Nat.one_pos, rep := fun _ l x => l = [.int k x], len := len1, one := fun h => one1 h rfl, mono := fun _ h => h }
def Sh.bool : Shape Bool := { n := 1, pos := Nat.one_pos, rep := fun _ l x => l = [.bool x], len := len1, one := fun h => one1 h rfl, mono := fun _ h => h }
def Sh.str : Shape (List UInt8) := { n := 1, pos := Nat.one_pos, rep := fun _ l x => l = [Go.HW.str x], len := len1, one := fun h => one1 h rfl, mono := fun _ h => h }
theorem pair_len {l l1 l2 : List Value} {n m : Nat} (h : l = l1 ++ l2) (h1 : l1.length = n) (h2 : l2.length = m) : l.length = n + m := by subst h; rw [List.length_append, h1, h2]
theorem pair_one {l l1 l2 : List Value} (h : l = l1 ++ l2) (h1 : ∀ v ∈ l1, v.oneCell' = true) (h2 : ∀ v ∈ l2, v.oneCell' = true) : ∀ v ∈ l, v.oneCell' = true := fun v hv => by
  subst h
  rcases List.mem_append.1 hv with hv | hv
  · exact h1 v hv
  · exact h2 v hv
def Sh.pair {α β : Type} (s : Shape α) (t : Shape β) : Shape (α × β) where
  n := s.n + t.n
  pos := Nat.lt_of_lt_of_le s.pos (Nat.le_add_right _ _)
  rep := fun M l x => ∃ l1 l2, l = l1 ++ l2 ∧ s.rep M l1 x.1 ∧ t.rep M l2 x.2
  len := fun ⟨_, _, h, h1, h2⟩ => pair_len h (s.len h1) (t.len h2)
  one := fun ⟨_, _, h, h1, h2⟩ => pair_one h (s.one h1) (t.one h2)
  mono := fun he ⟨l1, l2, h, h1, h2⟩ => ⟨l1, l2, h, s.mono he h1, t.mono he h2⟩

/-- The i-th part of n cells. -/
def chunk (cs : List Value) (n i : Nat) : List Value := (cs.drop (i * n)).take n
theorem chunk_get {cs : List Value} {n i j : Nat} {q : Value} (h : (chunk cs n i)[j]? = some q) : cs[i * n + j]? = some q := by
  unfold chunk at h
  have hj : j < n := by
    rcases Nat.lt_or_ge j n with h' | h'
    · exact h'
    · rw [List.getElem?_eq_none (by simp; omega)] at h; cases h
  rw [List.getElem?_take_of_lt hj, List.getElem?_drop] at h
  exact h

/-- 'v' is a slice whose elements are 'xs', of this shape; they stay. -/
def RowS {α : Type} (s : Shape α) (M : Mem) (v : Value) (xs : List α) : Prop := ∃ cs, RowV M v s.n xs.length cs ∧ ∀ i x, xs[i]? = some x → s.rep M (chunk cs s.n i) x
theorem RowS.mono {α : Type} {s : Shape α} {M M' : Mem} {v : Value} {xs : List α} (h : RowS s M v xs) (he : Ext M M') : RowS s M' v xs := by
  obtain ⟨cs, h1, h2⟩ := h
  exact ⟨cs, h1.mono he, fun i x hx => s.mono he (h2 i x hx)⟩
theorem RowS.nil {α : Type} (s : Shape α) (M : Mem) : RowS s M (.slice none 0 0) [] := ⟨[], ⟨by simp, none, 0, rfl, Nat.le_refl _, .inl rfl⟩, fun i x hx => by simp at hx⟩
theorem IntRow.nil (k : IntKind) (M : Mem) : IntRow M k (.slice none 0 0) [] := ⟨by simp [encl], none, 0, rfl, Nat.le_refl _, .inl rfl⟩
theorem IntRow.mono {k : IntKind} {M M' : Mem} {v : Value} {xs : List Int} (h : IntRow M k v xs) (he : Ext M M') : IntRow M' k v xs := RowV.mono h he
theorem RowS.sl {α : Type} {s : Shape α} {M : Mem} {v : Value} {xs : List α} (h : RowS s M v xs) : ∃ a c, v = .slice a xs.length c := by
  obtain ⟨cs, h1, _⟩ := h; exact h1.sl
theorem RowS.some {α : Type} {s : Shape α} {M : Mem} {v : Value} {xs : List α} (h : RowS s M v xs) {i : Int} (h0 : 0 ≤ i) (h1 : i < (xs.length : Int)) : ∃ a c, v = .slice (Option.some a) xs.length c := by
  obtain ⟨cs, h2, _⟩ := h; exact h2.some h0 h1
theorem getD_some {α : Type} {xs : List α} {i : Nat} (d : α) (h : i < xs.length) : xs[i]? = Option.some (xs.getD i d) := by simp [h]

/-- An own slice of such elements. -/
def OwnS {α : Type} (s : Shape α) (M : Mem) (v : Value) (cur : Array Value) (xs : List α) : Prop := ∃ cs, OwnV v cur s.n xs.length cs ∧ ∀ i x, xs[i]? = Option.some x → s.rep M (chunk cs s.n i) x
theorem OwnS.mono {α : Type} {s : Shape α} {M M' : Mem} {v : Value} {cur : Array Value} {xs : List α} (h : OwnS s M v cur xs) (he : Ext M M') : OwnS s M' v cur xs := by
  obtain ⟨cs, h1, h2⟩ := h
  exact ⟨cs, h1, fun i x hx => s.mono he (h2 i x hx)⟩
theorem OwnS.nil {α : Type} (s : Shape α) (M : Mem) : OwnS s M (.slice none 0 0) #[] [] := ⟨[], OwnV.nil s.n, fun i x hx => by simp at hx⟩
theorem OwnS.sl {α : Type} {s : Shape α} {M : Mem} {v : Value} {cur : Array Value} {xs : List α} (h : OwnS s M v cur xs) : ∃ a c, v = .slice a xs.length c := by
  obtain ⟨cs, h1, _⟩ := h; exact h1.slice
theorem OwnS.some {α : Type} {s : Shape α} {M : Mem} {v : Value} {cur : Array Value} {xs : List α} (h : OwnS s M v cur xs) {i : Int} (h0 : 0 ≤ i) (h1 : i < (xs.length : Int)) : ∃ a c, v = .slice (Option.some a) xs.length c := by
  obtain ⟨cs, h2, _⟩ := h; exact h2.some h0 h1
/-- What an own slice is when it stays. -/
theorem OwnV.stays {v : Value} {cur : Array Value} {e size n : Nat} {cs : List Value} (h : OwnV v cur size n cs) {M : Mem} (hM : ∀ b, v.ownBlock = Option.some b → M b = Option.some (.cells cur e (0, 0))) : RowV M v size n cs := by
  refine ⟨h.1, ?_⟩
  rcases h.2 with ⟨rfl, rfl⟩ | ⟨g, cap, rfl, k1, k2, k3, k4⟩
  · exact ⟨none, 0, rfl, Nat.le_refl _, .inl rfl⟩
  · refine ⟨_, cap, rfl, k1, .inr ⟨g, 0, cur, e, (0, 0), rfl, hM g rfl, fun i q hq => ?_⟩⟩
    rw [Nat.zero_add]
    rw [← k4] at hq
    have hk : i < n * size := by
      rcases Nat.lt_or_ge i (n * size) with hh | hh
      · exact hh
      · rw [List.getElem?_eq_none (by simp; omega)] at hq; cases hq
    rw [List.getElem?_take_of_lt hk] at hq
    simpa using hq
theorem OwnS.stays {α : Type} {s : Shape α} {v : Value} {cur : Array Value} {e : Nat} {xs : List α} {M M' : Mem} (h : OwnS s M v cur xs) (he : Ext M M') (hM : ∀ b, v.ownBlock = Option.some b → M' b = Option.some (.cells cur e (0, 0))) : RowS s M' v xs := by
  obtain ⟨cs, h1, h2⟩ := h
  exact ⟨cs, h1.stays hM, fun i x hx => s.mono he (h2 i x hx)⟩
theorem IntOwn.stays {k : IntKind} {v : Value} {cur : Array Value} {e : Nat} {xs : List Int} {M' : Mem} (h : IntOwn k v cur xs) (hM : ∀ b, v.ownBlock = Option.some b → M' b = Option.some (.cells cur e (0, 0))) : IntRow M' k v xs := OwnV.stays h hM

def Sh.row {α : Type} (s : Shape α) : Shape (List α) where
  n := 1
  pos := Nat.one_pos
  rep := fun M l xs => ∃ v, l = [v] ∧ RowS s M v xs
  len := fun ⟨_, h, _⟩ => len1 h
  one := fun ⟨_, h, hr⟩ => one1 h (Exists.elim hr fun _ h1 => h1.1.one)
  mono := fun he ⟨v, h, hr⟩ => ⟨v, h, hr.mono he⟩

/-! #### trees -/
inductive Tree (α : Type) where
  | node (a : α) (kids : List (Tree α))
def Tree.val {α : Type} : Tree α → α | .node a _ => a
def Tree.kids {α : Type} : Tree α → List (Tree α) | .node _ k => k
theorem Tree.eta {α : Type} (t : Tree α) : Tree.node t.val t.kids = t := by cases t; rfl
mutual
def Tree.depth {α : Type} : Tree α → Nat
  | .node _ ks => Tree.depths ks + 1
def Tree.depths {α : Type} : List (Tree α) → Nat
  | [] => 0
  | t :: r => Nat.max (Tree.depth t) (Tree.depths r)
end
inductive RepT {α : Type} (s : Shape α) (M : Mem) : List Value → Tree α → Prop
  | mk {l : List Value} {v : Value} {cs : List Value} {a : α} {kids : List (Tree α)} (h1 : s.rep M l a) (h2 : RowV M v (s.n + 1) kids.length cs) (h3 : ∀ i x, kids[i]? = Option.some x → RepT s M (chunk cs (s.n + 1) i) x) : RepT s M (l ++ [v]) (.node a kids)
theorem RepT.mono {α : Type} {s : Shape α} {M M' : Mem} (he : Ext M M') {l : List Value} {t : Tree α} (h : RepT s M l t) : RepT s M' l t := by
  induction h with
  | mk h1 h2 h3 ih => exact .mk (s.mono he h1) (h2.mono he) ih
theorem tree_len {α : Type} {s : Shape α} {M : Mem} {l : List Value} {t : Tree α} (h : RepT s M l t) : l.length = s.n + 1 := by
  cases h with
  | mk h1 h2 h3 => rw [List.length_append, s.len h1]; rfl
theorem tree_one {α : Type} {s : Shape α} {M : Mem} {l : List Value} {t : Tree α} (h : RepT s M l t) : ∀ v ∈ l, v.oneCell' = true := by
  cases h with
  | mk h1 h2 h3 => exact pair_one rfl (s.one h1) (one1 rfl h2.one)
def Sh.tree {α : Type} (s : Shape α) : Shape (Tree α) := { n := s.n + 1, pos := Nat.succ_pos _, rep := RepT s, len := tree_len, one := tree_one, mono := fun he h => RepT.mono he h }
theorem tree_open {α : Type} {s : Shape α} {M : Mem} {l : List Value} {t : Tree α} (h : (Sh.tree s).rep M l t) : ∃ l' v, l = l' ++ [v] ∧ s.rep M l' t.val ∧ RowS (Sh.tree s) M v t.kids := by
  cases h with
  | mk h1 h2 h3 => exact ⟨_, _, rfl, h1, _, h2, h3⟩
theorem tree_close {α : Type} {s : Shape α} {M : Mem} {l : List Value} {v : Value} {a : α} {kids : List (Tree α)} (h1 : s.rep M l a) (h2 : RowS (Sh.tree s) M v kids) : (Sh.tree s).rep M (l ++ [v]) (.node a kids) := by
  obtain ⟨cs, h3, h4⟩ := h2
  exact .mk h1 h3 h4

/-! #### operations -/
section
variable {Kc : Act → World → Prop} {P : Program} {o : Oper} {S : Slots} {w0 : World} {I : Nat → Option Obj} {H : Heap}
/-- A whole element out of a row that stays. -/
theorem load_rowA {w : World} {v : Value} {n i : Nat} {cs vs : List Value} {t : TypeId} {x : Operand} {ρ : Operand → Value} {sz : Nat} (h : RowV (heapOf w) v sz n cs) (hq : chunk cs sz i = vs) (hlt : i < n) (ha : ∀ w, (isAgg t).run P w = .ok true w) (hs : ∀ w, (sizeOf t).run P w = .ok sz w) (ho : o.op = .load t x) (hx : ρ x = elp v (i * sz)) : (execOp ρ o).run P w = .ok (.value (.agg vs.toArray)) w := by
  obtain ⟨h0, a, c, rfl, _, h3⟩ := h
  rcases h3 with rfl | ⟨b, off, arr, t', z, rfl, e2, e3⟩
  · omega
  · simp only [execOp, ho, hx]
    refine val_run ?_
    show ((isAgg t).bind _).run P w = _
    rw [run_of_bind (ha w)]
    show ((sizeOf t).bind _).run P w = _
    rw [run_of_bind (hs w)]
    have hl : vs.length = sz := by
      subst hq
      unfold chunk
      have : (i + 1) * sz ≤ n * sz := Nat.mul_le_mul_right _ hlt
      rw [Nat.add_mul] at this
      simp only [List.length_take, List.length_drop, h0]
      omega
    rw [add_none]
    refine (run_of_bind (run_loadCells (b := b) (off := off + i * sz) (vs := vs) hl (fun k q hk => ?_))).trans rfl
    rw [cell_of (show w.heap[b]? = _ from e2), Nat.add_assoc]
    exact e3 _ q (by subst hq; exact chunk_get hk)
theorem i_loadElA {v : Value} {n i sz : Nat} {cs vs : List Value} {t : TypeId} {x : Operand} (h : RowV I v sz n cs) (hq : chunk cs sz i = vs) (hlt : i < n) (ha : ∀ w, (isAgg t).run P w = .ok true w) (hs : ∀ w, (sizeOf t).run P w = .ok sz w) (ho : o.op = .load t x) (hx : ev S x = Option.some (elp v (i * sz))) : FImm P o I S (.agg vs.toArray) :=
  fun ρ hρ w hi => load_rowA (h.world hi) hq hlt ha hs ho (hρ _ _ hx)
theorem q_loadElA {M : Mem} {v : Value} {n i sz : Nat} {cs vs : List Value} {t : TypeId} {x : Operand} (hM : ∀ w, Cls w0 I H w → Imm M w) (h : RowV M v sz n cs) (hq : chunk cs sz i = vs) (hlt : i < n) (ha : ∀ w, (isAgg t).run P w = .ok true w) (hs : ∀ w, (sizeOf t).run P w = .ok sz w) (ho : o.op = .load t x) (hx : ev S x = Option.some (elp v (i * sz))) : FQuiet P o w0 I S H (.agg vs.toArray) :=
  fun ρ hρ w hc => .inl (load_rowA (h.world (hM w hc)) hq hlt ha hs ho (hρ _ _ hx))
/-- .. out of an own row. -/
theorem f_loadElA {v : Value} {cur : Array Value} {e n i sz j : Nat} {cs vs : List Value} {t : TypeId} {x : Operand} (hH : H[j]? = Option.some (v.ownBlock, .cells cur e (0, 0))) (h : OwnV v cur sz n cs) (hq : chunk cs sz i = vs) (hlt : i < n) (ha : ∀ w, (isAgg t).run P w = .ok true w) (hs : ∀ w, (sizeOf t).run P w = .ok sz w) (ho : o.op = .load t x) (hx : ev S x = Option.some (elp v (i * sz))) : FQuiet P o w0 I S H (.agg vs.toArray) :=
  fun ρ hρ w hc => .inl (load_rowA (h.row hc (List.mem_of_getElem? hH)) hq hlt ha hs ho (hρ _ _ hx))
theorem q_loadEl {M : Mem} {v q : Value} {n j sz : Nat} {cs : List Value} {t : TypeId} {x : Operand} (hM : ∀ w, Cls w0 I H w → Imm M w) (h : RowV M v sz n cs) (hq : cs[j]? = Option.some q) (ha : ∀ w, (isAgg t).run P w = .ok false w) (ho : o.op = .load t x) (hx : ev S x = Option.some (elp v j)) : FQuiet P o w0 I S H q :=
  fun ρ hρ w hc => .inl (load_row (h.world (hM w hc)) hq ha ho (hρ _ _ hx))

theorem chunk_append {cs ds : List Value} {n i m : Nat} (hl : cs.length = m * n) (h : i < m) : chunk (cs ++ ds) n i = chunk cs n i := by
  unfold chunk
  have h1 : i * n ≤ cs.length := by rw [hl]; exact Nat.mul_le_mul_right _ (Nat.le_of_lt h)
  have h2 : (i + 1) * n ≤ m * n := Nat.mul_le_mul_right _ h
  rw [Nat.add_mul] at h2
  rw [List.drop_append_of_le_length h1, List.take_append_of_le_length (by simp; omega)]
theorem chunk_append' {cs ds : List Value} {n i m : Nat} (hl : cs.length = m * n) : chunk (cs ++ ds) n (m + i) = chunk ds n i := by
  unfold chunk
  rw [Nat.add_mul, ← hl, List.drop_append, List.drop_of_length_le (by omega), List.nil_append]
  congr 2
  omega
theorem reps_append {α : Type} {s : Shape α} {M : Mem} {xs ys : List α} {cs ds : List Value} (hl : cs.length = xs.length * s.n) (h1 : ∀ i x, xs[i]? = Option.some x → s.rep M (chunk cs s.n i) x) (h2 : ∀ i x, ys[i]? = Option.some x → s.rep M (chunk ds s.n i) x) :
    ∀ i x, (xs ++ ys)[i]? = Option.some x → s.rep M (chunk (cs ++ ds) s.n i) x := fun i x hx => by
  rcases Nat.lt_or_ge i xs.length with h | h
  · rw [chunk_append hl h]
    exact h1 i x (by rwa [List.getElem?_append_left h] at hx)
  · obtain ⟨j, rfl⟩ := Nat.exists_eq_add_of_le h
    rw [chunk_append' hl]
    exact h2 j x (by rw [List.getElem?_append_right (by omega)] at hx; simpa using hx)
/-- All cells of a slice's elements are single ones. -/
theorem chunks_one {α : Type} {s : Shape α} {M : Mem} {xs : List α} {cs : List Value} (hl : cs.length = xs.length * s.n) (h : ∀ i x, xs[i]? = Option.some x → s.rep M (chunk cs s.n i) x) : ∀ u ∈ cs, u.oneCell' = true := fun u hu => by
  obtain ⟨k, hk⟩ := List.mem_iff_getElem?.1 hu
  have hlt : k < xs.length * s.n := by
    rcases Nat.lt_or_ge k cs.length with h' | h'
    · omega
    · rw [List.getElem?_eq_none h'] at hk; cases hk
  have hd : k / s.n < xs.length := Nat.div_lt_of_lt_mul (by rw [Nat.mul_comm]; exact hlt)
  have hr := h (k / s.n) xs[k / s.n] (List.getElem?_eq_getElem hd)
  refine s.one hr u ?_
  refine List.mem_iff_getElem?.2 ⟨k % s.n, ?_⟩
  unfold chunk
  rw [List.getElem?_take_of_lt (Nat.mod_lt _ s.pos), List.getElem?_drop, Nat.mul_comm, Nat.div_add_mod]
  exact hk
theorem RowS.src {α : Type} {s : Shape α} {M : Mem} {v : Value} {xs : List α} (h : RowS s M v xs) : ∃ cs, (∀ i x, xs[i]? = Option.some x → s.rep M (chunk cs s.n i) x) ∧ ∀ w, Imm M w → Src w v xs.length s.n cs := by
  obtain ⟨cs, h1, h2⟩ := h
  exact ⟨cs, h2, fun w hi => (h1.world hi).src (chunks_one h1.1 h2)⟩
theorem OwnS.src {α : Type} {s : Shape α} {M : Mem} {v : Value} {cur : Array Value} {xs : List α} {e i : Nat} (h : OwnS s M v cur xs) (hH : H[i]? = Option.some (v.ownBlock, .cells cur e (0, 0))) : ∃ cs, (∀ i x, xs[i]? = Option.some x → s.rep M (chunk cs s.n i) x) ∧ ∀ w, Cls w0 I H w → Src w v xs.length s.n cs := by
  obtain ⟨cs, h1, h2⟩ := h
  exact ⟨cs, h2, fun w hc => OwnV.src h1 hc (List.mem_of_getElem? hH) (chunks_one h1.1 h2)⟩

variable {R : Ending → World → Prop} {N : Nat} {f : FuncId} {K : List Item} {ops : Array Oper} {lab : Lab} {ids : Nat → Option Nat} {l : List Nat} {i d : Nat}
/-- Elements are put behind an own slice. -/
theorem DL.appendS {α : Type} {s : Shape α} {M : Mem} {t e bytes j : Nat} {z : Value} {x y : Operand} {v u : Value} {cur : Array Value} {xs ys : List α} (H' : Value → Array Value → Heap) (E : Elem P t e s.n bytes z) (hH : H[j]? = Option.some (v.ownBlock, .cells cur e (0, 0))) (hown : OwnS s M v cur xs)
    (hb : xs.length + ys.length ≤ 1099511627776) (hby : bytes ≤ 128) (hu : ∃ ds, (∀ i x, ys[i]? = Option.some x → s.rep M (chunk ds s.n i) x) ∧ ∀ w, Cls w0 I H w → Src w u ys.length s.n ds) (hi : ops[i]? = Option.some o) (hw : Wn ops S o true) (hd : o.dst = Option.some d) (hN : Nat.blt d N = true) (hk : (lab i).1 = .actx)
    (ho : o.op = .call { callee := .builtin .append, args := #[x, y], argTypes := #[t, t] }) (hx : ev S x = Option.some v) (hy : ev S y = Option.some u) (hH' : ∀ v cur, H.set j (v.ownBlock, .cells cur e (0, 0)) = H' v cur)
    (h : ∀ v cur, OwnS s M v cur (xs ++ ys) → DK P N w0 I Kc ops lab ids l ((d, v) :: S) (H' v cur)) : DK P N w0 I Kc ops lab ids (i :: l) S H := by
  obtain ⟨cs, h1, h2⟩ := hown
  obtain ⟨ds, g1, g2⟩ := hu
  refine DL.actx hi hw hd hN hk (f_append (w0 := w0) (I := I) E hH h1 hb hby g2 ho hx hy) fun q => ?_
  rw [hH']
  exact h q.1.1 q.1.2 ⟨cs ++ ds, by rw [List.length_append]; exact q.2, reps_append h1.1 h2 g1⟩
end
end Go.HW
