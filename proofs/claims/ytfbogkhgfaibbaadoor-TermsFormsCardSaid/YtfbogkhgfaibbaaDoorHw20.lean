import Derived.Test.YtfbogkhgfaibbaaDoorHw12
import Derived.Laws.Strings
import Derived.Laws.Concat
import Derived.Laws.Small
import Derived.Laws.BytesArg
import Derived.Laws.Cover1
import Derived.Lib.ConvBytes
import Derived.Lib.SliceRun
import Derived.Scope
import Derived.Maps.RangeRun
import Derived.Deep.AppendSrc
import Derived.Laws.CopyRow
section
namespace Go.HW
open Go Go.RowKit
set_option linter.unusedVariables false
set_option linter.unusedSimpArgs false

/-! ### shapes: how a value of a kind stands in cells -/
structure Shape (α : Type) where
  n : Nat
  pos : 0 < n
  rep : Mem → List Value → α → Prop
  len : ∀ {M l x}, rep M l x → l.length = n
  one : ∀ {M l x}, rep M l x → ∀ v ∈ l, v.oneCell' = true
  mono : ∀ {M M' l x}, Ext M M' → rep M l x → rep M' l x

theorem RowV.one {M : Mem} {v : Value} {size n : Nat} {cs : List Value} (h : RowV M v size n cs) : v.oneCell' = true := by
  obtain ⟨_, a, c, rfl, _⟩ := h; rfl

theorem one1 {l : List Value} {v : Value} (h : l = [v]) (h1 : v.oneCell' = true) : ∀ u ∈ l, u.oneCell' = true := fun u hu => by subst h; simp at hu; subst hu; exact h1
theorem len1 {l : List Value} {v : Value} (h : l = [v]) : l.length = 1 := by subst h; rfl
def Sh.int (k : IntKind) : Shape Int := { n := 1, pos := Nat.one_pos, rep := fun _ l x => l = [.int k x], len := len1, one := fun h => one1 h rfl, mono := fun _ h => h }
def Sh.bool : Shape Bool := { n := 1, pos := Nat.one_pos, rep := fun _ l x => l = [.bool x], len := len1, one := fun h => one1 h rfl, mono := fun _ h => h }
def Sh.str : Shape (List UInt8) := { n := 1, pos := Nat.one_pos, rep := fun _ l x => l = [Go.HW.str x], len := len1, one := fun h => one1 h rfl, mono := fun _ h => h }
theorem pair_len {l l1 l2 : List Value} {n m : Nat} (h : l = l1 ++ l2) (h1 : l1.length = n) (h2 : l2.length = m) : l.length = n + m := by subst h; rw [List.length_append, h1, h2]
theorem pair_one {l l1 l2 : List Value} (h : l = l1 ++ l2) (h1 : ∀ v ∈ l1, v.oneCell' = true) (h2 : ∀ v ∈ l2, v.oneCell' = true) : ∀ v ∈ l, v.oneCell' = true := fun v hv => by
  subst h
  rcases List.mem_append.1 hv with hv | hv
  · exact h1 v hv
  · exact h2 v hv
def Sh.pair {α β : Type} (s : Shape α) (t : Shape β) : Shape (α × β) where
  n := s.n + t.n
  pos := Nat.lt_of_lt_of_le s.pos (Nat.le_add_right _ _)
  rep := fun M l x => ∃ l1 l2, l = l1 ++ l2 ∧ s.rep M l1 x.1 ∧ t.rep M l2 x.2
  len := fun ⟨_, _, h, h1, h2⟩ => pair_len h (s.len h1) (t.len h2)
  one := fun ⟨_, _, h, h1, h2⟩ => pair_one h (s.one h1) (t.one h2)
  mono := fun he ⟨l1, l2, h, h1, h2⟩ => ⟨l1, l2, h, s.mono he h1, t.mono he h2⟩

/-- The i-th part of n cells. -/
def chunk (cs : List Value) (n i : Nat) : List Value := (cs.drop (i * n)).take n
theorem chunk_get {cs : List Value} {n i j : Nat} {q : Value} (h : (chunk cs n i)[j]? = some q) : cs[i * n + j]? = some q := by
  unfold chunk at h
  have hj : j < n := by
    rcases Nat.lt_or_ge j n with h' | h'
    · exact h'
    · rw [List.getElem?_eq_none (by simp; omega)] at h; cases h
  rw [List.getElem?_take_of_lt hj, List.getElem?_drop] at h
  exact h

/-- 'v' is a slice whose elements are 'xs', of this shape; they stay. -/
def RowS {α : Type} (s : Shape α) (M : Mem) (v : Value) (xs : List α) : Prop := ∃ cs, RowV M v s.n xs.length cs ∧ ∀ i x, xs[i]? = some x → s.rep M (chunk cs s.n i) x
theorem RowS.mono {α : Type} {s : Shape α} {M M' : Mem} {v : Value} {xs : List α} (h : RowS s M v xs) (he : Ext M M') : RowS s M' v xs := by
  obtain ⟨cs, h1, h2⟩ := h
  exact ⟨cs, h1.mono he, fun i x hx => s.mono he (h2 i x hx)⟩
theorem RowS.nil {α : Type} (s : Shape α) (M : Mem) : RowS s M (.slice none 0 0) [] := ⟨[], ⟨by simp, none, 0, rfl, Nat.le_refl _, .inl rfl⟩, fun i x hx => by simp at hx⟩
theorem IntRow.nil (k : IntKind) (M : Mem) : IntRow M k (.slice none 0 0) [] := ⟨by simp [encl], none, 0, rfl, Nat.le_refl _, .inl rfl⟩
theorem IntRow.mono {k : IntKind} {M M' : Mem} {v : Value} {xs : List Int} (h : IntRow M k v xs) (he : Ext M M') : IntRow M' k v xs := RowV.mono h he
theorem RowS.sl {α : Type} {s : Shape α} {M : Mem} {v : Value} {xs : List α} (h : RowS s M v xs) : ∃ a c, v = .slice a xs.length c := by
  obtain ⟨cs, h1, _⟩ := h; exact h1.sl
theorem RowS.some {α : Type} {s : Shape α} {M : Mem} {v : Value} {xs : List α} (h : RowS s M v xs) {i : Int} (h0 : 0 ≤ i) (h1 : i < (xs.length : Int)) : ∃ a c, v = .slice (Option.some a) xs.length c := by
  obtain ⟨cs, h2, _⟩ := h; exact h2.some h0 h1
theorem getD_some {α : Type} {xs : List α} {i : Nat} (d : α) (h : i < xs.length) : xs[i]? = Option.some (xs.getD i d) := by simp [h]

/-- An own slice of such elements. -/
def OwnS {α : Type} (s : Shape α) (M : Mem) (v : Value) (cur : Array Value) (xs : List α) : Prop := ∃ cs, OwnV v cur s.n xs.length cs ∧ ∀ i x, xs[i]? = Option.some x → s.rep M (chunk cs s.n i) x
theorem OwnS.mono {α : Type} {s : Shape α} {M M' : Mem} {v : Value} {cur : Array Value} {xs : List α} (h : OwnS s M v cur xs) (he : Ext M M') : OwnS s M' v cur xs := by
  obtain ⟨cs, h1, h2⟩ := h
  exact ⟨cs, h1, fun i x hx => s.mono he (h2 i x hx)⟩
theorem OwnS.nil {α : Type} (s : Shape α) (M : Mem) : OwnS s M (.slice none 0 0) #[] [] := ⟨[], OwnV.nil s.n, fun i x hx => by simp at hx⟩
theorem OwnS.sl {α : Type} {s : Shape α} {M : Mem} {v : Value} {cur : Array Value} {xs : List α} (h : OwnS s M v cur xs) : ∃ a c, v = .slice a xs.length c := by
  obtain ⟨cs, h1, _⟩ := h; exact h1.slice
theorem OwnS.some {α : Type} {s : Shape α} {M : Mem} {v : Value} {cur : Array Value} {xs : List α} (h : OwnS s M v cur xs) {i : Int} (h0 : 0 ≤ i) (h1 : i < (xs.length : Int)) : ∃ a c, v = .slice (Option.some a) xs.length c := by
  obtain ⟨cs, h2, _⟩ := h; exact h2.some h0 h1
/-- What an own slice is when it stays. -/
theorem OwnV.stays {v : Value} {cur : Array Value} {e size n : Nat} {cs : List Value} (h : OwnV v cur size n cs) {M : Mem} (hM : ∀ b, v.ownBlock = Option.some b → M b = Option.some (.cells cur e (0, 0))) : RowV M v size n cs := by
  refine ⟨h.1, ?_⟩
  rcases h.2 with ⟨rfl, rfl⟩ | ⟨g, cap, rfl, k1, k2, k3, k4⟩
  · exact ⟨none, 0, rfl, Nat.le_refl _, .inl rfl⟩
  · refine ⟨_, cap, rfl, k1, .inr ⟨g, 0, cur, e, (0, 0), rfl, hM g rfl, fun i q hq => ?_⟩⟩
    rw [Nat.zero_add]
    rw [← k4] at hq
    have hk : i < n * size := by
      rcases Nat.lt_or_ge i (n * size) with hh | hh
      · exact hh
      · rw [List.getElem?_eq_none (by simp; omega)] at hq; cases hq
    rw [List.getElem?_take_of_lt hk] at hq
    simpa using hq
theorem OwnS.stays {α : Type} {s : Shape α} {v : Value} {cur : Array Value} {e : Nat} {xs : List α} {M M' : Mem} (h : OwnS s M v cur xs) (he : Ext M M') (hM : ∀ b, v.ownBlock = Option.some b → M' b = Option.some (.cells cur e (0, 0))) : RowS s M' v xs := by
  obtain ⟨cs, h1, h2⟩ := h
  exact ⟨cs, h1.stays hM, fun i x hx => s.mono he (h2 i x hx)⟩
theorem IntOwn.stays {k : IntKind} {v : Value} {cur : Array Value} {e : Nat} {xs : List Int} {M' : Mem} (h : IntOwn k v cur xs) (hM : ∀ b, v.ownBlock = Option.some b → M' b = Option.some (.cells cur e (0, 0))) : IntRow M' k v xs := OwnV.stays h hM

def Sh.row {α : Type} (s : Shape α) : Shape (List α) where
  n := 1
  pos := Nat.one_pos
  rep := fun M l xs => ∃ v, l = [v] ∧ RowS s M v xs
  len := fun ⟨_, h, _⟩ => len1 h
  one := fun ⟨_, h, hr⟩ => one1 h (Exists.elim hr fun _ h1 => h1.1.one)
  mono := fun he ⟨v, h, hr⟩ => ⟨v, h, hr.mono he⟩

/-! #### trees -/
inductive Tree (α : Type) where
  | node (a : α) (kids : List (Tree α))
def Tree.val {α : Type} : Tree α → α | .node a _ => a
def Tree.kids {α : Type} : Tree α → List (Tree α) | .node _ k => k
theorem Tree.eta {α : Type} (t : Tree α) : Tree.node t.val t.kids = t := by cases t; rfl
mutual
def Tree.depth {α : Type} : Tree α → Nat
  | .node _ ks => Tree.depths ks + 1
def Tree.depths {α : Type} : List (Tree α) → Nat
  | [] => 0
  | t :: r => Nat.max (Tree.depth t) (Tree.depths r)
end
inductive RepT {α : Type} (s : Shape α) (M : Mem) : List Value → Tree α → Prop
  | mk {l : List Value} {v : Value} {cs : List Value} {a : α} {kids : List (Tree α)} (h1 : s.rep M l a) (h2 : RowV M v (s.n + 1) kids.length cs) (h3 : ∀ i x, kids[i]? = Option.some x → RepT s M (chunk cs (s.n + 1) i) x) : RepT s M (l ++ [v]) (.node a kids)
theorem RepT.mono {α : Type} {s : Shape α} {M M' : Mem} (he : Ext M M') {l : List Value} {t : Tree α} (h : RepT s M l t) : RepT s M' l t := by
  induction h with
  | mk h1 h2 h3 ih => exact .mk (s.mono he h1) (h2.mono he) ih
theorem tree_len {α : Type} {s : Shape α} {M : Mem} {l : List Value} {t : Tree α} (h : RepT s M l t) : l.length = s.n + 1 := by
  cases h with
  | mk h1 h2 h3 => rw [List.length_append, s.len h1]; rfl
theorem tree_one {α : Type} {s : Shape α} {M : Mem} {l : List Value} {t : Tree α} (h : RepT s M l t) : ∀ v ∈ l, v.oneCell' = true := by
  cases h with
  | mk h1 h2 h3 => exact pair_one rfl (s.one h1) (one1 rfl h2.one)
def Sh.tree {α : Type} (s : Shape α) : Shape (Tree α) := { n := s.n + 1, pos := Nat.succ_pos _, rep := RepT s, len := tree_len, one := tree_one, mono := fun he h => RepT.mono he h }
theorem tree_open {α : Type} {s : Shape α} {M : Mem} {l : List Value} {t : Tree α} (h : (Sh.tree s).rep M l t) : ∃ l' v, l = l' ++ [v] ∧ s.rep M l' t.val ∧ RowS (Sh.tree s) M v t.kids := by
  cases h with
  | mk h1 h2 h3 => exact ⟨_, _, rfl, h1, _, h2, h3⟩
theorem tree_close {α : Type} {s : Shape α} {M : Mem} {l : List Value} {v : Value} {a : α} {kids : List (Tree α)} (h1 : s.rep M l a) (h2 : RowS (Sh.tree s) M v kids) : (Sh.tree s).rep M (l ++ [v]) (.node a kids) := by
  obtain ⟨cs, h3, h4⟩ := h2
  exact .mk h1 h3 h4

/-! #### operations -/
section
variable {Kc : Act → World → Prop} {P : Program} {o : Oper} {S : Slots} {w0 : World} {I : Nat → Option Obj} {H : Heap}
/-- A whole element out of a row that stays. -/
theorem load_rowA {w : World} {v : Value} {n i : Nat} {cs vs : List Value} {t : TypeId} {x : Operand} {ρ : Operand → Value} {sz : Nat} (h : RowV (heapOf w) v sz n cs) (hq : chunk cs sz i = vs) (hlt : i < n) (ha : ∀ w, (isAgg t).run P w = .ok true w) (hs : ∀ w, (sizeOf t).run P w = .ok sz w) (ho : o.op = .load t x) (hx : ρ x = elp v (i * sz)) : (execOp ρ o).run P w = .ok (.value (.agg vs.toArray)) w := by
  obtain ⟨h0, a, c, rfl, _, h3⟩ := h
  rcases h3 with rfl | ⟨b, off, arr, t', z, rfl, e2, e3⟩
  · omega
  · simp only [execOp, ho, hx]
    refine val_run ?_
    show ((isAgg t).bind _).run P w = _
    rw [run_of_bind (ha w)]
    show ((sizeOf t).bind _).run P w = _
    rw [run_of_bind (hs w)]
    have hl : vs.length = sz := by
      subst hq
      unfold chunk
      have : (i + 1) * sz ≤ n * sz := Nat.mul_le_mul_right _ hlt
      rw [Nat.add_mul] at this
      simp only [List.length_take, List.length_drop, h0]
      omega
    rw [add_none]
    refine (run_of_bind (run_loadCells (b := b) (off := off + i * sz) (vs := vs) hl (fun k q hk => ?_))).trans rfl
    rw [cell_of (show w.heap[b]? = _ from e2), Nat.add_assoc]
    exact e3 _ q (by subst hq; exact chunk_get hk)
theorem i_loadElA {v : Value} {n i sz : Nat} {cs vs : List Value} {t : TypeId} {x : Operand} (h : RowV I v sz n cs) (hq : chunk cs sz i = vs) (hlt : i < n) (ha : ∀ w, (isAgg t).run P w = .ok true w) (hs : ∀ w, (sizeOf t).run P w = .ok sz w) (ho : o.op = .load t x) (hx : ev S x = Option.some (elp v (i * sz))) : FImm P o I S (.agg vs.toArray) :=
  fun ρ hρ w hi => load_rowA (h.world hi) hq hlt ha hs ho (hρ _ _ hx)
/-- .. out of an own row. -/
theorem f_loadElA {v : Value} {cur : Array Value} {e n i sz j : Nat} {cs vs : List Value} {t : TypeId} {x : Operand} (hH : H[j]? = Option.some (v.ownBlock, .cells cur e (0, 0))) (h : OwnV v cur sz n cs) (hq : chunk cs sz i = vs) (hlt : i < n) (ha : ∀ w, (isAgg t).run P w = .ok true w) (hs : ∀ w, (sizeOf t).run P w = .ok sz w) (ho : o.op = .load t x) (hx : ev S x = Option.some (elp v (i * sz))) : FQuiet P o w0 I S H (.agg vs.toArray) :=
  fun ρ hρ w hc => .inl (load_rowA (h.row hc (List.mem_of_getElem? hH)) hq hlt ha hs ho (hρ _ _ hx))
theorem q_loadEl {M : Mem} {v q : Value} {n j sz : Nat} {cs : List Value} {t : TypeId} {x : Operand} (hM : ∀ w, Cls w0 I H w → Imm M w) (h : RowV M v sz n cs) (hq : cs[j]? = Option.some q) (ha : ∀ w, (isAgg t).run P w = .ok false w) (ho : o.op = .load t x) (hx : ev S x = Option.some (elp v j)) : FQuiet P o w0 I S H q :=
  fun ρ hρ w hc => .inl (load_row (h.world (hM w hc)) hq ha ho (hρ _ _ hx))

theorem chunk_append {cs ds : List Value} {n i m : Nat} (hl : cs.length = m * n) (h : i < m) : chunk (cs ++ ds) n i = chunk cs n i := by
  unfold chunk
  have h1 : i * n ≤ cs.length := by rw [hl]; exact Nat.mul_le_mul_right _ (Nat.le_of_lt h)
  have h2 : (i + 1) * n ≤ m * n := Nat.mul_le_mul_right _ h
  rw [Nat.add_mul] at h2
  rw [List.drop_append_of_le_length h1, List.take_append_of_le_length (by simp; omega)]
theorem chunk_append' {cs ds : List Value} {n i m : Nat} (hl : cs.length = m * n) : chunk (cs ++ ds) n (m + i) = chunk ds n i := by
  unfold chunk
  rw [Nat.add_mul, ← hl, List.drop_append, List.drop_of_length_le (by omega), List.nil_append]
  congr 2
  omega
theorem reps_append {α : Type} {s : Shape α} {M : Mem} {xs ys : List α} {cs ds : List Value} (hl : cs.length = xs.length * s.n) (h1 : ∀ i x, xs[i]? = Option.some x → s.rep M (chunk cs s.n i) x) (h2 : ∀ i x, ys[i]? = Option.some x → s.rep M (chunk ds s.n i) x) :
    ∀ i x, (xs ++ ys)[i]? = Option.some x → s.rep M (chunk (cs ++ ds) s.n i) x := fun i x hx => by
  rcases Nat.lt_or_ge i xs.length with h | h
  · rw [chunk_append hl h]
    exact h1 i x (by rwa [List.getElem?_append_left h] at hx)
  · obtain ⟨j, rfl⟩ := Nat.exists_eq_add_of_le h
    rw [chunk_append' hl]
    exact h2 j x (by rw [List.getElem?_append_right (by omega)] at hx; simpa using hx)
/-- All cells of a slice's elements are single ones. -/
theorem chunks_one {α : Type} {s : Shape α} {M : Mem} {xs : List α} {cs : List Value} (hl : cs.length = xs.length * s.n) (h : ∀ i x, xs[i]? = Option.some x → s.rep M (chunk cs s.n i) x) : ∀ u ∈ cs, u.oneCell' = true := fun u hu => by
  obtain ⟨k, hk⟩ := List.mem_iff_getElem?.1 hu
  have hlt : k < xs.length * s.n := by
    rcases Nat.lt_or_ge k cs.length with h' | h'
    · omega
    · rw [List.getElem?_eq_none h'] at hk; cases hk
  have hd : k / s.n < xs.length := Nat.div_lt_of_lt_mul (by rw [Nat.mul_comm]; exact hlt)
  have hr := h (k / s.n) xs[k / s.n] (List.getElem?_eq_getElem hd)
  refine s.one hr u ?_
  refine List.mem_iff_getElem?.2 ⟨k % s.n, ?_⟩
  unfold chunk
  rw [List.getElem?_take_of_lt (Nat.mod_lt _ s.pos), List.getElem?_drop, Nat.mul_comm, Nat.div_add_mod]
  exact hk
theorem RowS.src {α : Type} {s : Shape α} {M : Mem} {v : Value} {xs : List α} (h : RowS s M v xs) : ∃ cs, (∀ i x, xs[i]? = Option.some x → s.rep M (chunk cs s.n i) x) ∧ ∀ w, Imm M w → Src w v xs.length s.n cs := by
  obtain ⟨cs, h1, h2⟩ := h
  exact ⟨cs, h2, fun w hi => (h1.world hi).src (chunks_one h1.1 h2)⟩
theorem OwnS.src {α : Type} {s : Shape α} {M : Mem} {v : Value} {cur : Array Value} {xs : List α} {e i : Nat} (h : OwnS s M v cur xs) (hH : H[i]? = Option.some (v.ownBlock, .cells cur e (0, 0))) : ∃ cs, (∀ i x, xs[i]? = Option.some x → s.rep M (chunk cs s.n i) x) ∧ ∀ w, Cls w0 I H w → Src w v xs.length s.n cs := by
  obtain ⟨cs, h1, h2⟩ := h
  exact ⟨cs, h2, fun w hc => OwnV.src h1 hc (List.mem_of_getElem? hH) (chunks_one h1.1 h2)⟩

variable {R : Ending → World → Prop} {N : Nat} {f : FuncId} {K : List Item} {ops : Array Oper} {lab : Lab} {ids : Nat → Option Nat} {l : List Nat} {i d : Nat}
/-- Elements are put behind an own slice. -/
theorem DL.appendS {α : Type} {s : Shape α} {M : Mem} {t e bytes j : Nat} {z : Value} {x y : Operand} {v u : Value} {cur : Array Value} {xs ys : List α} (H' : Value → Array Value → Heap) (E : Elem P t e s.n bytes z) (hH : H[j]? = Option.some (v.ownBlock, .cells cur e (0, 0))) (hown : OwnS s M v cur xs)
    (hb : xs.length + ys.length ≤ 1099511627776) (hby : bytes ≤ 128) (hu : ∃ ds, (∀ i x, ys[i]? = Option.some x → s.rep M (chunk ds s.n i) x) ∧ ∀ w, Cls w0 I H w → Src w u ys.length s.n ds) (hi : ops[i]? = Option.some o) (hw : Wn ops S o true) (hd : o.dst = Option.some d) (hN : Nat.blt d N = true) (hk : (lab i).1 = .actx)
    (ho : o.op = .call { callee := .builtin .append, args := #[x, y], argTypes := #[t, t] }) (hx : ev S x = Option.some v) (hy : ev S y = Option.some u) (hH' : ∀ v cur, H.set j (v.ownBlock, .cells cur e (0, 0)) = H' v cur)
    (h : ∀ v cur, OwnS s M v cur (xs ++ ys) → DK P N w0 I Kc ops lab ids l ((d, v) :: S) (H' v cur)) : DK P N w0 I Kc ops lab ids (i :: l) S H := by
  obtain ⟨cs, h1, h2⟩ := hown
  obtain ⟨ds, g1, g2⟩ := hu
  refine DL.actx hi hw hd hN hk (f_append (w0 := w0) (I := I) E hH h1 hb hby g2 ho hx hy) fun q => ?_
  rw [hH']
  exact h q.1.1 q.1.2 ⟨cs ++ ds, by rw [List.length_append]; exact q.2, reps_append h1.1 h2 g1⟩
end
end Go.HW
end

section
namespace Go.HW
open Go Go.RowKit
set_option linter.unusedVariables false
set_option linter.unusedSimpArgs false

/-! ### texts -/
/-- Is a text less than another one? -/
def lessL (a b : List UInt8) : Bool := Op.bytesLess a b
section
variable {P : Program} {o : Oper} {S : Slots} {w0 : World} {I : Mem} {H : Heap} {T U : TypeId} {x y : Operand} {a b : List UInt8}
theorem p_str {op : BinOp} {v : Value} (hr : ∀ w, (binOp op T (str a) (str b)).run P w = .ok v w) (ho : o.op = .binOp op T x y U) (hx : ev S x = some (str a)) (hy : ev S y = some (str b)) : FPure P o S v := fun ρ hρ w => by
  simp only [execOp, ho, hρ _ _ hx, hρ _ _ hy]
  refine val_run ?_
  have hg : (eqGuard op T x y (str a) (str b)).run P w = .ok () w := by
    cases op <;> rfl
  exact (run_of_bind hg).trans (hr w)
theorem p_strEq (ho : o.op = .binOp .eql T x y U) (hx : ev S x = some (str a)) (hy : ev S y = some (str b)) : FPure P o S (.bool (a == b)) := p_str (fun w => by rw [str, str, binOp_string_eql]; simp) ho hx hy
theorem p_strNe (ho : o.op = .binOp .neq T x y U) (hx : ev S x = some (str a)) (hy : ev S y = some (str b)) : FPure P o S (.bool (!(a == b))) := p_str (fun w => by rw [str, str, binOp_string_neq]; simp) ho hx hy
theorem p_strGt (ho : o.op = .binOp .gtr T x y U) (hx : ev S x = some (str a)) (hy : ev S y = some (str b)) : FPure P o S (.bool (!(lessL a b || a == b))) := p_str (fun w => by rw [str, str, binOp_string_gtr]; simp [lessL]) ho hx hy
theorem p_strAdd (h : a.length + b.length ≤ 1099511627776) (ho : o.op = .binOp .add T x y U) (hx : ev S x = some (str a)) (hy : ev S y = some (str b)) : FPure P o S (str (a ++ b)) := p_str (fun w => by
  rw [str, str, binOp_string_add, run_string_add_sum w _ _ (by simp [ByteArray.size]; omega), ByteArray.mk_append_mk]; rfl) ho hx hy

/-! ### parts of slices and of texts -/
theorem run_bound {v : Int} {k : IntKind} {y : Nat} {c : BoundsCode} {w : World} (h0 : 0 ≤ v) (h1 : v ≤ (y : Int)) : (Instr.sliceBound (.int k v) y c).run P w = .ok v.toNat w := by
  unfold Instr.sliceBound
  refine (run_of_bind (show (asIntOf (.int k v)).run P w = .ok (k, v) w from rfl)).trans ?_
  simp only [if_pos (And.intro h0 h1)]
  rfl
theorem run_bounds {s : Bool} {n c : Nat} {w : World} (lo hi : Option Value) (l h : Nat) (hh : (hi = none ∧ h = n) ∨ ∃ k, hi = some (.int k (h : Int))) (hl : (lo = none ∧ l = 0) ∨ ∃ k, lo = some (.int k (l : Int))) (h1 : h ≤ c) (h2 : l ≤ h) : (Instr.sliceBounds s n c lo hi none).run P w = .ok (l, h, c) w := by
  unfold Instr.sliceBounds
  refine (run_of_bind (a := c) (w' := w) rfl).trans ?_
  have hlo : ∀ (cd : BoundsCode) (f : Nat → Sem (Nat × Nat × Nat)), (match lo with | some v => (Instr.sliceBound v h cd).bind f | none => (Pure.pure 0 : Sem Nat).bind f).run P w = (f l).run P w := fun cd f => by
    rcases hl with ⟨rfl, rfl⟩ | ⟨k, rfl⟩
    · rfl
    · refine (run_of_bind (run_bound (by omega) (by omega))).trans ?_
      simp
  rcases hh with ⟨rfl, rfl⟩ | ⟨k, rfl⟩
  · refine (run_of_bind (a := h) (w' := w) rfl).trans ?_
    exact (hlo _ _).trans rfl
  · refine (run_of_bind (run_bound (by omega) (by omega))).trans ?_
    simp only [Int.toNat_natCast]
    exact (hlo _ _).trans rfl
/-- A part of a slice. -/
def subsl (v : Value) (sz l h : Nat) : Value := match v with
  | .slice a n c => .slice (if c = l then a else a.map (·.add (l * sz))) (h - l) (c - l)
  | v => v
theorem RowV.sub {M : Mem} {v : Value} {sz n : Nat} {cs : List Value} (hr : RowV M v sz n cs) {l h : Nat} (h1 : h ≤ n) (h2 : l ≤ h) : RowV M (subsl v sz l h) sz (h - l) ((cs.drop (l * sz)).take ((h - l) * sz)) := by
  obtain ⟨h0, a, c, rfl, hc, h3⟩ := hr
  have hmul : h * sz ≤ n * sz := Nat.mul_le_mul_right _ h1
  have hmul2 : l * sz ≤ h * sz := Nat.mul_le_mul_right _ h2
  refine ⟨by simp only [List.length_take, List.length_drop, h0, Nat.sub_mul]; omega, _, _, rfl, by omega, ?_⟩
  rcases h3 with rfl | ⟨b, off, arr, t, z, rfl, e2, e3⟩
  · left; omega
  · by_cases hz : h - l = 0
    · exact .inl hz
    · right
      have : c ≠ l := by omega
      refine ⟨b, off + l * sz, arr, t, z, ?_, e2, fun i q hq => ?_⟩
      · simp [this, add_none]
      · have hi : i < (h - l) * sz := by
          rcases Nat.lt_or_ge i ((h - l) * sz) with h' | h'
          · exact h'
          · rw [List.getElem?_eq_none (by simp; omega)] at hq; cases hq
        rw [List.getElem?_take_of_lt hi, List.getElem?_drop] at hq
        rw [Nat.add_assoc]
        exact e3 _ q hq
theorem run_sub {M : Mem} {v : Value} {sz n e : Nat} {cs : List Value} {lo hi : Option Value} {w : World} {l h : Nat} (hu : ∀ w, (underlying T).run P w = .ok (.slice e) w) (hs : ∀ w, (sizeOf e).run P w = .ok sz w) (hr : RowV M v sz n cs)
    (hh : (hi = none ∧ h = n) ∨ ∃ k, hi = some (.int k (h : Int))) (hl : (lo = none ∧ l = 0) ∨ ∃ k, lo = some (.int k (l : Int))) (h1 : h ≤ n) (h2 : l ≤ h) : (Instr.sliceAt T v lo hi none).run P w = .ok (subsl v sz l h) w := by
  obtain ⟨h0, a, c, rfl, hc, h3⟩ := hr
  unfold Instr.sliceAt
  refine (run_of_bind (hu w)).trans ?_
  unfold Instr.slice
  refine (run_of_bind (hu w)).trans ?_
  refine (run_of_bind (run_bounds lo hi l h hh hl (by omega) h2)).trans ?_
  exact (run_of_bind (hs w)).trans rfl
variable {M : Mem} {v : Value} {sz n e : Nat} {cs : List Value} {i j : Int} {k k2 : IntKind} {z : Operand}
theorem toNat_cast {i : Int} (h : 0 ≤ i) : (i.toNat : Int) = i := Int.toNat_of_nonneg h
theorem p_subLH (hu : ∀ w, (underlying T).run P w = .ok (.slice e) w) (hs : ∀ w, (sizeOf e).run P w = .ok sz w) (hr : RowV M v sz n cs) (h0 : 0 ≤ i) (h1 : i ≤ j) (h2 : j ≤ (n : Int)) (ho : o.op = .slice T x (some y) (some z) none) (hx : ev S x = some v) (hy : ev S y = some (.int k i)) (hz : ev S z = some (.int k2 j)) : FPure P o S (subsl v sz i.toNat j.toNat) := fun ρ hρ w => by
  simp only [execOp, ho, hρ _ _ hx, Option.map_some, hρ _ _ hy, hρ _ _ hz, Option.map_none]
  exact val_run (run_sub (P := P) (w := w) hu hs hr (.inr ⟨k2, by rw [toNat_cast (by omega)]⟩) (.inr ⟨k, by rw [toNat_cast h0]⟩) (by omega) (by omega))
theorem p_subL (hu : ∀ w, (underlying T).run P w = .ok (.slice e) w) (hs : ∀ w, (sizeOf e).run P w = .ok sz w) (hr : RowV M v sz n cs) (h0 : 0 ≤ i) (h1 : i ≤ (n : Int)) (ho : o.op = .slice T x (some y) none none) (hx : ev S x = some v) (hy : ev S y = some (.int k i)) : FPure P o S (subsl v sz i.toNat n) := fun ρ hρ w => by
  simp only [execOp, ho, hρ _ _ hx, Option.map_some, hρ _ _ hy, Option.map_none]
  exact val_run (run_sub (P := P) (w := w) hu hs hr (.inl ⟨rfl, rfl⟩) (.inr ⟨k, by rw [toNat_cast h0]⟩) (by omega) (by omega))
theorem IntRow.sub {k : IntKind} {xs : List Int} (hr : IntRow M k v xs) {l h : Nat} (h1 : h ≤ xs.length) (h2 : l ≤ h) : IntRow M k (subsl v 1 l h) ((xs.drop l).take (h - l)) := by
  have := RowV.sub hr h1 h2
  unfold IntRow
  have hl : ((xs.drop l).take (h - l)).length = h - l := by simp; omega
  rw [hl]
  simpa [encl, List.map_take, List.map_drop] using this
theorem IntRow.subL {k : IntKind} {xs : List Int} (hr : IntRow M k v xs) {l : Nat} (h2 : l ≤ xs.length) : IntRow M k (subsl v 1 l xs.length) (xs.drop l) := by
  have := hr.sub (Nat.le_refl _) h2
  rwa [List.take_of_length_le (by simp)] at this
theorem IntRow.subH {k : IntKind} {xs : List Int} (hr : IntRow M k v xs) {h : Nat} (h1 : h ≤ xs.length) : IntRow M k (subsl v 1 0 h) (xs.take h) := by
  have := hr.sub h1 (Nat.zero_le _)
  simpa using this
theorem chunk_sub {cs : List Value} {n i l m : Nat} (h : i < m) : chunk ((cs.drop (l * n)).take (m * n)) n i = chunk cs n (l + i) := by
  unfold chunk
  have h2 : (i + 1) * n ≤ m * n := Nat.mul_le_mul_right _ h
  rw [Nat.add_mul] at h2
  rw [List.drop_take, List.take_take, List.drop_drop, Nat.min_eq_left (by omega), Nat.add_mul]
theorem RowS.sub {α : Type} {s : Shape α} {xs : List α} (hr : RowS s M v xs) {l h : Nat} (h1 : h ≤ xs.length) (h2 : l ≤ h) : RowS s M (subsl v s.n l h) ((xs.drop l).take (h - l)) := by
  obtain ⟨cs, g1, g2⟩ := hr
  have hl : ((xs.drop l).take (h - l)).length = h - l := by simp; omega
  refine ⟨_, by rw [hl]; exact g1.sub h1 h2, fun i x hx => ?_⟩
  have hi : i < h - l := by
    rcases Nat.lt_or_ge i (h - l) with h' | h'
    · exact h'
    · rw [List.getElem?_eq_none (by omega)] at hx; cases hx
  rw [chunk_sub hi]
  refine g2 _ x ?_
  rw [List.getElem?_take_of_lt hi, List.getElem?_drop] at hx
  exact hx
theorem RowS.subL {α : Type} {s : Shape α} {xs : List α} (hr : RowS s M v xs) {l : Nat} (h2 : l ≤ xs.length) : RowS s M (subsl v s.n l xs.length) (xs.drop l) := by
  have := hr.sub (Nat.le_refl _) h2
  rwa [List.take_of_length_le (by simp)] at this
theorem RowS.subH {α : Type} {s : Shape α} {xs : List α} (hr : RowS s M v xs) {h : Nat} (h1 : h ≤ xs.length) : RowS s M (subsl v s.n 0 h) (xs.take h) := by
  have := hr.sub h1 (Nat.zero_le _)
  simpa using this
theorem RowS.V {α : Type} {s : Shape α} {xs : List α} (hr : RowS s M v xs) : ∃ cs, RowV M v s.n xs.length cs := ⟨_, hr.choose_spec.1⟩
/-- A part of a text. -/
theorem extract_str (s : List UInt8) (l h : Nat) : (⟨s.toArray⟩ : ByteArray).extract l h = ⟨((s.drop l).take (h - l)).toArray⟩ := by
  apply ByteArray.ext
  rw [ByteArray.data_extract]
  simp
theorem run_strSub {s : List UInt8} {lo hi : Option Value} {w : World} {l h : Nat} (hu : ∀ w, (underlying T).run P w = .ok .string w)
    (hh : (hi = none ∧ h = s.length) ∨ ∃ k, hi = some (.int k (h : Int))) (hl : (lo = none ∧ l = 0) ∨ ∃ k, lo = some (.int k (l : Int))) (h1 : h ≤ s.length) (h2 : l ≤ h) : (Instr.sliceAt T (str s) lo hi none).run P w = .ok (str ((s.drop l).take (h - l))) w := by
  unfold Instr.sliceAt
  refine (run_of_bind (hu w)).trans ?_
  unfold Instr.slice
  refine (run_of_bind (hu w)).trans ?_
  have hsz : (⟨s.toArray⟩ : ByteArray).size = s.length := by simp [ByteArray.size]
  refine (run_of_bind (x := Instr.sliceBounds false (⟨s.toArray⟩ : ByteArray).size (⟨s.toArray⟩ : ByteArray).size lo hi none) (a := (l, h, s.length)) (w' := w) ?_).trans ?_
  · rw [hsz]; exact run_bounds lo hi l h hh hl h1 h2
  · simp only [extract_str]; rfl
theorem p_strSubLH {s : List UInt8} (hu : ∀ w, (underlying T).run P w = .ok .string w) (h0 : 0 ≤ i) (h1 : i ≤ j) (h2 : j ≤ (s.length : Int)) (ho : o.op = .slice T x (some y) (some z) none) (hx : ev S x = some (str s)) (hy : ev S y = some (.int k i)) (hz : ev S z = some (.int k2 j)) : FPure P o S (str ((s.drop i.toNat).take (j.toNat - i.toNat))) := fun ρ hρ w => by
  simp only [execOp, ho, hρ _ _ hx, Option.map_some, hρ _ _ hy, hρ _ _ hz, Option.map_none]
  exact val_run (run_strSub (P := P) (w := w) hu (.inr ⟨k2, by rw [toNat_cast (by omega)]⟩) (.inr ⟨k, by rw [toNat_cast h0]⟩) (by omega) (by omega))
theorem p_strSubL {s : List UInt8} (hu : ∀ w, (underlying T).run P w = .ok .string w) (h0 : 0 ≤ i) (h1 : i ≤ (s.length : Int)) (ho : o.op = .slice T x (some y) none none) (hx : ev S x = some (str s)) (hy : ev S y = some (.int k i)) : FPure P o S (str (s.drop i.toNat)) := fun ρ hρ w => by
  simp only [execOp, ho, hρ _ _ hx, Option.map_some, hρ _ _ hy, Option.map_none]
  refine val_run ((run_strSub (P := P) (w := w) hu (.inl ⟨rfl, rfl⟩) (.inr ⟨k, by rw [toNat_cast h0]⟩) (by omega) (by omega)).trans ?_)
  rw [List.take_of_length_le (by simp)]
theorem p_strSubH {s : List UInt8} (hu : ∀ w, (underlying T).run P w = .ok .string w) (h0 : 0 ≤ j) (h1 : j ≤ (s.length : Int)) (ho : o.op = .slice T x none (some z) none) (hx : ev S x = some (str s)) (hz : ev S z = some (.int k2 j)) : FPure P o S (str (s.take j.toNat)) := fun ρ hρ w => by
  simp only [execOp, ho, hρ _ _ hx, Option.map_some, hρ _ _ hz, Option.map_none]
  refine val_run ((run_strSub (P := P) (w := w) hu (.inr ⟨k2, by rw [toNat_cast h0]⟩) (.inl ⟨rfl, rfl⟩) (by omega) (by omega)).trans ?_)
  simp

/-! ### bytes and texts -/
/-! ### small things -/
theorem sl_cells {v : Value} {n : Nat} (h : ∃ a c, v = .slice a n c) : v.cells = #[v] := by obtain ⟨a, c, rfl⟩ := h; rfl
theorem sl_one {v : Value} {n : Nat} (h : ∃ a c, v = .slice a n c) : OneCell v := by obtain ⟨a, c, rfl⟩ := h; trivial
theorem one_nil : ∀ u ∈ ([] : List Value), OneCell u := fun u h => by cases h
theorem one_cons {a : Value} {l : List Value} (h : OneCell a) (hl : ∀ u ∈ l, OneCell u) : ∀ u ∈ a :: l, OneCell u := fun u hu => by
  cases hu with
  | head => exact h
  | tail _ h' => exact hl u h'
/-- The same, in these words. -/
theorem RowS.strs {xs : List (List UInt8)} (h : RowS Sh.str M v xs) : RowV M v 1 xs.length (xs.map str) := by
  obtain ⟨cs, h1, h2⟩ := h
  have : cs = xs.map str := by
    apply List.ext_getElem?
    intro i
    rw [List.getElem?_map]
    cases hx : xs[i]? with
    | none =>
      have := h1.1
      simp only [List.getElem?_eq_none_iff] at hx ⊢
      have h3 : cs.length = xs.length * 1 := h1.1
      simp; omega
    | some s =>
      have h3 : chunk cs 1 i = [str s] := h2 i s hx
      have := chunk_get (cs := cs) (n := 1) (i := i) (j := 0) (q := str s) (by rw [h3]; rfl)
      simpa using this
  rw [← this]; exact h1
theorem strs_get {xs : List (List UInt8)} {i : Nat} (h : i < xs.length) : (xs.map str)[i]? = some (str (xs.getD i [])) := by simp [h]

/-! ### maps with numbers -/
theorem f_lookupOk {t kt e : TypeId} {k : IntKind} {x y : Operand} {b j : Nat} {a : Int} {l : List (Int × Value)} {z : Value} (hm : ∀ w, (underlying t).run P w = .ok (.map kt e) w) (hk : ∀ w, (underlying kt).run P w = .ok (.int k) w) (hz : ∀ w, (zeroValue e).run P w = .ok z w)
    (hH : H[j]? = some (some b, mobj k l)) (ho : o.op = .lookup t x y true) (hx : ev S x = some (.map (some b))) (hy : ev S y = some (.int k a)) : FQuiet P o w0 I S H (.tuple #[(mfind a l).getD z, .bool (mfind a l).isSome]) := fun ρ hρ w hc => .inl (by
  simp only [execOp, ho, hρ _ _ hx, hρ _ _ hy]
  refine val_run ?_
  have hb := hc.own b _ (List.mem_of_getElem? hH)
  obtain ⟨r, h1, h2⟩ := run_findKey_int (P := P) hk a l w
  unfold Instr.lookup
  refine (run_of_bind (hm w)).trans ?_
  refine (run_of_bind (run_getObj hb)).trans ?_
  refine (run_of_bind (x := Pure.pure (ments k 0 l).toArray) (a := (ments k 0 l).toArray) (w' := w) rfl).trans ?_
  refine (run_of_bind (run_checkKey_int hk a _ w)).trans ?_
  refine (run_of_bind h1).trans ?_
  rw [← h2]
  cases r with
  | none => exact (run_of_bind (hz w)).trans rfl
  | some p => rfl)
end
end Go.HW
end

section
namespace Go.HW
open Go Go.RowKit
set_option linter.unusedVariables false
set_option linter.unusedSimpArgs false

section
variable {Kc : Act → World → Prop} {xh : Option Nat} {P : Program} {o : Oper} {S : Slots} {w0 : World} {I M M0 : Mem} {H A J : Heap} {R : Ending → World → Prop} {N : Nat} {f : FuncId} {K : List Item} {ops : Array Oper} {lab : Lab} {ids : Nat → Option Nat} {l : List Nat} {i d : Nat}

theorem toNat_le {j : Int} {n : Nat} (h : j ≤ (n : Int)) : j.toNat ≤ n := by omega
theorem toNat_le2 {i j : Int} (h : i ≤ j) : i.toNat ≤ j.toNat := by omega
theorem chunk1 {cs : List Value} {i : Nat} {v : Value} (h : chunk cs 1 i = [v]) : cs[i]? = some v := by
  have := chunk_get (cs := cs) (n := 1) (i := i) (j := 0) (q := v) (by rw [h]; rfl)
  simpa using this
theorem OwnS.row {α : Type} {s : Shape α} {v : Value} {cur : Array Value} {xs : List α} {e i : Nat} (h : OwnS s M v cur xs) {w : World} (he : Ext M (heapOf w)) (hc : Cls w0 I H w) (hH : H[i]? = Option.some (v.ownBlock, .cells cur e (0, 0))) : RowS s (heapOf w) v xs := by
  obtain ⟨cs, h1, h2⟩ := h
  exact ⟨cs, h1.row hc (List.mem_of_getElem? hH), fun i x hx => s.mono he (h2 i x hx)⟩
theorem OwnS.strs {v : Value} {cur : Array Value} {xs : List (List UInt8)} (h : OwnS Sh.str M v cur xs) : OwnV v cur 1 xs.length (xs.map str) := by
  obtain ⟨cs, h1, h2⟩ := h
  have : cs = xs.map str := by
    apply List.ext_getElem?
    intro i
    rw [List.getElem?_map]
    cases hx : xs[i]? with
    | none =>
      have h3 : cs.length = xs.length * 1 := h1.1
      simp only [List.getElem?_eq_none_iff] at hx
      simp; omega
    | some s =>
      have h3 : chunk cs 1 i = [str s] := h2 i s hx
      simpa using chunk1 h3
  rw [← this]; exact h1
/-- A new row of such elements. -/
theorem DL.newS {α : Type} {s : Shape α} {zs : List α} {cells : List Value} {e n : Nat} (hz : zs.length = n) (hm : n ≤ maxLen) (hl : cells.length = n * s.n) (hr : ∀ i x, zs[i]? = some x → s.rep M (chunk cells s.n i) x) (hi : ops[i]? = some o) (hw : Wn ops S o true) (hd : o.dst = some d) (hN : Nat.blt d N = true) (hk : (lab i).1 = .alloc)
    (hp : FNew P o S (.cells cells.toArray e) (fun b => .slice (some ⟨b, 0, none⟩) n n)) (h : ∀ v cur, OwnS s M v cur zs → DK P N w0 I Kc ops lab ids l ((d, v) :: S) ((v.ownBlock, .cells cur e (0, 0)) :: H)) : DK P N w0 I Kc ops lab ids (i :: l) S H :=
  DL.new hi hw hd hN hk hp fun b hb => h (.slice (some ⟨b, 0, none⟩) n n) cells.toArray ⟨cells, by
    subst hz
    exact OwnV.fresh (Nat.le_refl _) hm (by simpa using hl) (by rw [List.take_of_length_le]; simp [hl]) hl, hr⟩
theorem f_buildS {t e bytes n sz : Nat} {z : Value} {cells : Array Value} {parts : Array (Nat × Operand)} {vs : List (Nat × Value)} (E : Elem P t e sz bytes z) (hn : Nat.ble (n * sz) 16777216 = true) (h0 : Nat.blt 0 n = true)
    (hf : Instr.fill (fun i => some (i * sz, sz)) ((Array.range (n * sz)).map (z.cells[· % z.cells.size]!)) vs = some cells) (ho : o.op = .buildSlice t n parts) (hp : ∀ ρ, Val S ρ → (parts.map fun p => (p.1, ρ p.2)).toList = vs) :
    FNew P o S (.cells cells e) (fun b => .slice (some ⟨b, 0, none⟩) n n) := fun ρ hρ w => by
  obtain ⟨i, hi, hz, hs, hbb⟩ := E.hi
  have h1 := Nat.le_of_ble_eq_true hn
  have h2 : 0 < n := by simpa [Nat.blt_eq] using h0
  simp only [execOp, ho]
  refine val_run ?_
  refine run_buildSlice w t e n _ _ i _ E.ht hi hz (by rw [hs]; omega) (by rw [hs]; have := Nat.mul_pos h2 E.hs; omega) ?_
  rw [hs, ← hf, ← hp ρ hρ]

/-- Some of what is owned, in another order. -/
def pick (is : List Nat) (H : Heap) : Heap := is.filterMap fun i => H[i]?
theorem pick_nodup {H : Heap} (hn : (H.filterMap Prod.fst).Nodup) : ∀ {is : List Nat}, is.Nodup → ((pick is H).filterMap Prod.fst).Nodup
  | [], _ => List.nodup_nil
  | i :: is, h => by
    obtain ⟨h1, h2⟩ := List.nodup_cons.1 h
    have ih := pick_nodup hn h2
    unfold pick at ih ⊢
    rw [List.filterMap_cons]
    cases hi : H[i]? with
    | none => exact ih
    | some p =>
      obtain ⟨r, o⟩ := p
      cases r with
      | none => simpa using ih
      | some b =>
        simp only [List.filterMap_cons]
        refine List.nodup_cons.2 ⟨fun hm => ?_, ih⟩
        obtain ⟨u, hu⟩ := mem_ids.1 hm
        obtain ⟨j, hj, he⟩ := List.mem_filterMap.1 hu
        have := ids_unique hn hi he
        subst this
        exact h1 hj
theorem Cls.pick {w : World} (is : List Nat) (hn : is.Nodup) (hc : Cls w0 I H w) : Cls w0 I (HW.pick is H) w :=
  ⟨hc.os, hc.tape, hc.output, hc.size, hc.imm, fun b o hm => by
    obtain ⟨i, _, he⟩ := List.mem_filterMap.1 hm
    exact hc.own b o (List.mem_of_getElem? he), fun b o hm => by
    obtain ⟨i, _, he⟩ := List.mem_filterMap.1 hm
    exact hc.disj b o (List.mem_of_getElem? he), pick_nodup hc.nodup hn⟩
theorem TT.pick (is : List Nat) (hn : is.Nodup) (h : TT P f R N w0 I K S (HW.pick is H)) : TT P f R N w0 I K S H := fun a w ha hc => h a w ha (hc.pick is hn)
theorem TT.goto {l : Nat} {K' : List Item} (he : gotoIn l K = some K') (h : TT P f R N w0 I K' S H) : TT P f R N w0 I (.code (.goto l) :: K) S H := fun a w ha hc => T.goto he (h a w ha hc)
theorem TT.scope {c : Code} (h : TT P f R N w0 I (.code c :: .inScope c :: K) S H) : TT P f R N w0 I (.code (.scope c) :: K) S H := fun a w ha hc => T.scope (fun b cs => step_scope) (h a w ha hc)
theorem DL.cutJ {w1 : World} {I2 M2 : Mem} (A : Heap) (M : Mem) (hE : EnvX xh w1 M0 M2 I2) (S' : Slots) (l2 : List Nat) (h1 : ∀ M' J', EnvX xh w1 M0 M' (addJ I J') → Ext M M' → DK P N w0 I Kc ops lab ids l2 S' (A ++ J'))
    (h2 : (∀ M' J', EnvX xh w1 M0 M' (addJ I J') → Ext M M' → DK P N w0 I Kc ops lab ids l2 S' (A ++ J')) → DK P N w0 I Kc ops lab ids l S H) : DK P N w0 I Kc ops lab ids l S H := h2 h1
end
end Go.HW
end

section
namespace Go.HW
open Go Go.RowKit
set_option linter.unusedVariables false
set_option linter.unusedSimpArgs false

/-! ### going over a map of numbers, in whatever order -/
/-- What is left of the entries. -/
def remOf (l : List (Int × Int)) (seen : Array Nat) : List (Int × Int) := (l.zipIdx.filter fun p => !seen.contains p.2).map (·.1)
theorem remOf_nil (l : List (Int × Int)) : remOf l #[] = l := by
  unfold remOf
  rw [List.filter_eq_self.2 (fun p _ => by simp)]
  simp
theorem filter_push : ∀ (l : List ((Int × Int) × Nat)) (seen : Array Nat) (i : Nat) (e : Int × Int), (l.map (·.2)).Nodup → (e, i) ∈ l → ¬ i ∈ seen →
    ((e, i) :: l.filter fun p => !(seen.push i).contains p.2).Perm (l.filter fun p => !seen.contains p.2)
  | [], _, _, _, _, h, _ => by cases h
  | (x, j) :: l, seen, i, e, hn, h, hs => by
    simp only [List.map_cons, List.nodup_cons] at hn
    by_cases hij : j = i
    · subst hij
      have hx : x = e := by
        cases h with
        | head => rfl
        | tail _ h => exact absurd (List.mem_map.2 ⟨_, h, rfl⟩) hn.1
      subst hx
      have h1 : (seen.push j).contains j = true := by simp
      have h2 : seen.contains j = false := by simpa using hs
      rw [List.filter_cons, List.filter_cons]
      simp only [h1, h2, Bool.not_true, Bool.not_false, Bool.false_eq_true, if_false, if_true]
      refine List.Perm.cons _ ?_
      have : (l.filter fun p => !(seen.push j).contains p.2) = l.filter fun p => !seen.contains p.2 := by
        refine List.filter_congr fun p hp => ?_
        have hne : p.2 ≠ j := fun hpj => hn.1 (List.mem_map.2 ⟨p, hp, hpj⟩)
        have : (seen.push j).contains p.2 = seen.contains p.2 := by
          rw [Bool.eq_iff_iff]
          simp [hne]
        rw [this]
      rw [this]
    · have hm : (e, i) ∈ l := by
        cases h with
        | head => exact absurd rfl hij
        | tail _ h => exact h
      have ih := filter_push l seen i e hn.2 hm hs
      have hc : (seen.push i).contains j = seen.contains j := by
        rw [Bool.eq_iff_iff]
        simp [hij]
      rw [List.filter_cons, List.filter_cons]
      simp only [hc]
      split
      · exact (List.Perm.swap _ _ _).trans (ih.cons _)
      · exact ih
theorem remOf_push {l : List (Int × Int)} {seen : Array Nat} {i : Nat} {e : Int × Int} (h : l[i]? = some e) (hs : ¬ i ∈ seen) : (e :: remOf l (seen.push i)).Perm (remOf l seen) := by
  unfold remOf
  have hm : (e, i) ∈ l.zipIdx := by
    rw [List.mem_zipIdx_iff_getElem?]; exact h
  have hn : (l.zipIdx.map (·.2)).Nodup := by
    rw [show (l.zipIdx.map (·.2)) = List.range' 0 l.length from by simp [List.zipIdx_map_snd]]
    exact List.nodup_range'
  exact (filter_push l.zipIdx seen i e hn hm hs).map (·.1)
/-- The iterator's block. -/
def iobj (bm n : Nat) (seen : Array Nat) : Obj := .mapIter (some bm) n seen n

section
variable {Kc : Act → World → Prop} {xh : Option Nat} {P : Program} {o : Oper} {S : Slots} {w0 : World} {I : Mem} {H : Heap} {R : Ending → World → Prop} {N : Nat} {f : FuncId} {K : List Item} {ops : Array Oper} {lab : Lab} {ids : Nat → Option Nat} {l : List Nat} {i d : Nat}
theorem DL.range {t kt et : TypeId} {x : Operand} {bm j : Nat} {k : IntKind} {m : List (Int × Value)} (hm : ∀ w, (underlying t).run P w = .ok (.map kt et) w) (hH : H[j]? = some (some bm, mobj k m)) (hi : ops[i]? = some o) (hw : Wn ops S o true) (hd : o.dst = some d) (hN : Nat.blt d N = true) (hk : (lab i).1 = .keep)
    (ho : o.op = .range t x) (hx : ev S x = some (.map (some bm))) (h : ∀ b, DK P N w0 I Kc ops lab ids l ((d, ptr b 0) :: S) ((some b, iobj bm m.length #[]) :: H)) : DK P N w0 I Kc ops lab ids (i :: l) S H :=
  DL.keep (X := Nat) (u := fun b => ptr b 0) (H' := fun b => (some b, iobj bm m.length #[]) :: H) (fun _ p hp => List.mem_cons_of_mem _ hp) hi hw hd hN hk (fun ρ hρ w hc => .inl ⟨w.heap.size, w.alloc (iobj bm m.length #[]), by
    simp only [execOp, ho, hρ _ _ hx]
    refine val_run ?_
    unfold Instr.range
    have hb := hc.own bm _ (List.mem_of_getElem? hH)
    refine (run_of_bind (hm w)).trans ?_
    refine (run_of_bind (run_getObj hb)).trans ?_
    rfl, hc.alloc _⟩) h
/-- What 'next' gives: nothing, or an entry that is left. -/
def NextX (l : List (Int × Int)) (seen : Array Nat) : Type := {x : Option (Nat × Int × Int) // match x with
  | none => remOf l seen = []
  | some (i, e) => l[i]? = some e ∧ ¬ i ∈ seen}
def nextH {l : List (Int × Int)} {seen : Array Nat} (r bm j : Nat) (H : Heap) (x : NextX l seen) : Heap := match x.1 with
  | none => H
  | some (i, _) => H.set j (some r, iobj bm l.length (seen.push i))
end

/-! ### shorter words -/
abbrev kp : Kd × Option Nat := (.pure, none)
abbrev kq : Kd × Option Nat := (.quiet, none)
abbrev kk : Kd × Option Nat := (.keep, none)
abbrev kx : Kd × Option Nat := (.actx, none)
section
variable {Kc : Act → World → Prop} {P : Program} {f : FuncId} {R : Ending → World → Prop} {N : Nat} {w0 : World} {I : Mem} {k : List Item} {S : Slots} {H : Heap}
theorem TT.rg {c : Code} {id : Nat} (l : List Nat) (ll : List (Kd × Option Nat)) (hc : c = .region id (opsOf c) false) (hl : List.range (opsOf c).size = l) (h : DL P f R N w0 I k (opsOf c) (labOf ll) (fun _ => none) l S H) : TT P f R N w0 I (.code c :: k) S H := by
  have h1 := TT.region (id := id) (n := (opsOf c).size) ll rfl (hl ▸ h)
  rwa [← hc] at h1
theorem TT.rgD {c : Code} {id : Nat} (l m : List Nat) (ll : List (Kd × Option Nat)) (hc : c = .region id (opsOf c) true) (hm : P.follows .mixedOrders = true) (hB : okP (opsOf c) (labOf ll) l m = true)
    (h : ∀ w1, Later w0 w1 → (∀ z y b, idsOf H z = some b → idsOf H y = some b → z = y) → (∀ z b, idsOf H z = some b → b < w1.heap.size) → DL P f R N w1 I k (opsOf c) (labOf ll) (idsOf H) l S H) : TT P f R N w0 I (.code c :: k) S H := by
  have h1 := TT.regionD (id := id) l m ll hm hB h
  rwa [← hc] at h1
theorem DL.mv {ops : Array Oper} {lab : Lab} {ids : Nat → Option Nat} {i : Nat} {l : List Nat} {x : Operand} (d : Nat) (v : Value) (hc : chk ops N lab isPure i d = true) (ho : (opAt ops i).op = .move x) (hx : ev S x = some v) (h : DK P N w0 I Kc ops lab ids l ((d, v) :: S) H) : DK P N w0 I Kc ops lab ids (i :: l) S H :=
  DL.pu d v hc (p_move ho hx) h
end
end Go.HW
end

section
namespace Go.HW
open Go Go.RowKit
set_option linter.unusedVariables false
set_option linter.unusedSimpArgs false

/-! ### pointers to structs and arrays -/
section
variable {P : Program} {o : Oper} {S : Slots} {w0 : World} {I : Nat → Option Obj} {H : Heap}
theorem p_nilCheck {x : Operand} {b off : Nat} (ho : o.op = .nilCheck x) (hx : ev S x = some (ptr b off)) : FPure P o S (ptr b off) := fun ρ hρ w => by
  simp only [execOp, ho, hρ _ _ hx]; rfl
theorem i_loadBoxO {t t' : TypeId} {x : Operand} {b off : Nat} {c : Array Value} {v : Value} {z : Nat × Nat} (hb : I b = some (.cells c t' z)) (hv : c[off]? = some v) (ha : ∀ w, (isAgg t).run P w = .ok false w) (ho : o.op = .load t x) (hx : ev S x = some (ptr b off)) : FImm P o I S v := fun ρ hρ w hi => by
  simp only [execOp, ho, hρ _ _ hx]
  refine val_run ?_
  show ((isAgg t).bind _).run P w = _
  rw [run_of_bind (ha w)]
  exact run_load (by rw [cell_of (hi b _ hb), hv])
end
end Go.HW
end

section
namespace Go.HW
open Go Go.RowKit
set_option linter.unusedVariables false
set_option linter.unusedSimpArgs false

/-! ### append(x, make([]T, m)...) -/
section
variable {Kc : Act → World → Prop} {P : Program} (w : World)
end
section
variable {Kc : Act → World → Prop} {P : Program} {o : Oper} {S : Slots} {w0 : World} {I : Nat → Option Obj} {H : Heap}
variable {R : Ending → World → Prop} {N : Nat} {f : FuncId} {K : List Item} {ops : Array Oper} {lab : Lab} {ids : Nat → Option Nat} {l : List Nat} {i d : Nat}
/-- a whole element into an own row -/
theorem f_storeElA {v : Value} {cur : Array Value} {e n i sz j : Nat} {cs vs : List Value} {t : TypeId} {x y : Operand} (hs : ∀ w, (sizeOf t).run P w = .ok sz w) (hH : H[j]? = some (v.ownBlock, .cells cur e (0, 0))) (h : OwnV v cur sz n cs) (hlt : i < n) (hl : vs.length = sz) (h1 : ∀ u ∈ vs, OneCell u)
    (ho : o.op = .store t x y) (hx : ev S x = some (elp v (i * sz))) (hy : ev S y = some (.agg vs.toArray)) : FPut P o w0 I S H (H.set j (v.ownBlock, .cells (splice cur (i * sz) vs) e (0, 0))) := by
  rcases h.2 with ⟨rfl, rfl⟩ | ⟨g, cap, rfl, k1, k2, k3, k4⟩
  · omega
  · have hle : (i + 1) * sz ≤ cap * sz := Nat.mul_le_mul_right _ (by omega)
    rw [Nat.add_mul] at hle
    have hr := put_of_store (P := P) (o := o) (S := S) (w0 := w0) (I := I) (H := H) (y := y) (x := x) (off := i * sz) (v := .agg vs.toArray) hs hH (by simpa [Value.cells] using hl) (by rw [k3]; omega) (fun u hu => h1 u (by simpa [Value.cells] using hu)) ho (by
      rw [hx]
      show some (Value.pointer (some ((⟨g, 0, none⟩ : Addr).add (i * sz)))) = _
      rw [add_none, Nat.zero_add]) hy
    rw [show (Value.agg vs.toArray).cells.toList = vs by simp [Value.cells]] at hr
    exact hr
theorem OwnS.V {α : Type} {s : Shape α} {M : Mem} {v : Value} {cur : Array Value} {xs : List α} (h : OwnS s M v cur xs) : ∃ cs, OwnV v cur s.n xs.length cs := by obtain ⟨cs, h1, _⟩ := h; exact ⟨cs, h1⟩
end
end Go.HW
end

section
namespace Go.HW
open Go Go.RowKit
set_option linter.unusedVariables false
set_option linter.unusedSimpArgs false
section
variable {Kc : Act → World → Prop} {xh : Option Nat} {P : Program} {o : Oper} {S : Slots} {w0 : World} {I M M0 : Mem} {H A J : Heap} {R : Ending → World → Prop} {N : Nat} {f : FuncId} {K : List Item} {ops : Array Oper} {lab : Lab} {ids : Nat → Option Nat} {l : List Nat} {i d : Nat}

end
end Go.HW
end

section
namespace Go.HW
open Go Go.RowKit
set_option linter.unusedVariables false
theorem splice_get : ∀ (vs : List Value) (c : Array Value) (off m : Nat), off + vs.length ≤ c.size → (splice c off vs)[m]? = if off ≤ m ∧ m < off + vs.length then vs[m - off]? else c[m]?
  | [], c, off, m, _ => by simp [splice]; omega
  | v :: vs, c, off, m, h => by
    simp only [List.length_cons] at h ⊢
    show (splice (c.setIfInBounds off v) (off + 1) vs)[m]? = _
    rw [splice_get vs _ (off + 1) m (by simp; omega)]
    by_cases h1 : off + 1 ≤ m ∧ m < off + 1 + vs.length
    · rw [if_pos h1, if_pos (by omega), show m - off = (m - (off + 1)) + 1 by omega, List.getElem?_cons_succ]
    · rw [if_neg h1]
      by_cases h2 : m = off
      · subst h2
        rw [if_pos (by omega), Nat.sub_self, List.getElem?_cons_zero, Array.getElem?_setIfInBounds_self_of_lt (by omega)]
      · rw [if_neg (by omega), Array.getElem?_setIfInBounds_ne (Ne.symm h2)]
/-- an element of an own row is turned -/
theorem OwnS.set {α : Type} {s : Shape α} {M : Mem} {v : Value} {cur : Array Value} {xs : List α} (h : OwnS s M v cur xs) {i : Nat} (hi : i < xs.length) {vs : List Value} {y : α} (hy : s.rep M vs y) (hl : vs.length = s.n) : OwnS s M v (splice cur (i * s.n) vs) (xs.set i y) := by
  obtain ⟨cs, ⟨h1, h2⟩, h3⟩ := h
  rcases h2 with ⟨rfl, h2⟩ | ⟨g, cap, rfl, k1, k2, k3, k4⟩
  · omega
  · have hle : (i + 1) * s.n ≤ xs.length * s.n := Nat.mul_le_mul_right _ hi
    have hle2 : xs.length * s.n ≤ cap * s.n := Nat.mul_le_mul_right _ k1
    rw [Nat.add_mul, Nat.one_mul] at hle
    refine ⟨(splice cur (i * s.n) vs).toList.take (xs.length * s.n), ⟨?_, .inr ⟨g, cap, by rw [List.length_set], by rw [List.length_set]; exact k1, k2, by rw [splice_size]; exact k3, by rw [List.length_set]⟩⟩, fun k x hx => ?_⟩
    · have e0 : (splice cur (i * s.n) vs).toList.length = cap * s.n := by rw [Array.length_toList, splice_size, k3]
      rw [List.length_set, List.length_take, e0]; omega
    · have hk : k < xs.length := by
        have := (List.getElem?_eq_some_iff.1 hx).1
        rwa [List.length_set] at this
      have hkl : (k + 1) * s.n ≤ xs.length * s.n := Nat.mul_le_mul_right _ hk
      rw [Nat.add_mul, Nat.one_mul] at hkl
      have e : ∀ m, (chunk ((splice cur (i * s.n) vs).toList.take (xs.length * s.n)) s.n k)[m]? = if k = i then vs[m]? else (chunk cs s.n k)[m]? := fun m => by
        unfold chunk
        by_cases hm : m < s.n
        · rw [List.getElem?_take_of_lt hm, List.getElem?_drop, List.getElem?_take_of_lt (by omega), Array.getElem?_toList, splice_get _ _ _ _ (by omega)]
          by_cases hki : k = i
          · subst hki
            rw [if_pos (by omega), if_pos rfl]; congr 1; omega
          · rw [if_neg hki, List.getElem?_take_of_lt hm, List.getElem?_drop, ← k4, List.getElem?_take_of_lt (by omega)]
            rcases Nat.lt_or_ge k i with hlt | hge
            · have : (k + 1) * s.n ≤ i * s.n := Nat.mul_le_mul_right _ hlt
              rw [Nat.add_mul, Nat.one_mul] at this
              rw [if_neg (by omega)]; exact Array.getElem?_toList.symm
            · have : (i + 1) * s.n ≤ k * s.n := Nat.mul_le_mul_right _ (by omega)
              rw [Nat.add_mul, Nat.one_mul] at this
              rw [if_neg (by omega)]; exact Array.getElem?_toList.symm
        · rw [List.getElem?_take_eq_none (by omega)]
          split
          · rw [List.getElem?_eq_none (by omega)]
          · rw [List.getElem?_take_eq_none (by omega)]
      by_cases hki : k = i
      · subst hki
        have e2 : chunk ((splice cur (k * s.n) vs).toList.take (xs.length * s.n)) s.n k = vs := List.ext_getElem? fun m => by rw [e m, if_pos rfl]
        rw [e2]
        rw [List.getElem?_set_self hi] at hx
        cases hx; exact hy
      · have e2 : chunk ((splice cur (i * s.n) vs).toList.take (xs.length * s.n)) s.n k = chunk cs s.n k := List.ext_getElem? fun m => by rw [e m, if_neg hki]
        rw [e2]
        rw [List.getElem?_set_ne (Ne.symm hki)] at hx
        exact h3 k x hx
end Go.HW
end
