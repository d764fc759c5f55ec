import Derived.Test.YthldgjbmjgjogaaGreatDoorHw12
import Derived.Laws.Strings
import Derived.Laws.Concat
import Derived.Laws.Small
import Derived.Laws.BytesArg
import Derived.Laws.Cover1
import Derived.Lib.ConvBytes
import Derived.Lib.SliceRun
import Derived.Scope
import Derived.Maps.RangeRun
import Derived.Deep.AppendSrc
import Derived.Laws.CopyRow
section
namespace Go.HW
open Go Go.RowKit
set_option linter.unusedVariables false
set_option linter.unusedSimpArgs false

/-! ### shapes: how a value of a kind stands in cells -/
structure Shape (α : Type) where
  n : Nat
  pos : 0 < n
  rep : Mem → List Value → α → Prop
  len : ∀ {M l x}, rep M l x → l.length = n
  one : ∀ {M l x}, rep M l x → ∀ v ∈ l, v.oneCell' = true
  mono : ∀ {M M' l x}, Ext M M' → rep M l x → rep M' l x

theorem RowV.one {M : Mem} {v : Value} {size n : Nat} {cs : List Value} (h : RowV M v size n cs) : v.oneCell' = true := by
  obtain ⟨_, a, c, rfl, _⟩ := h; rfl

theorem one1 {l : List Value} {v : Value} (h : l = [v]) (h1 : v.oneCell' = true) : ∀ u ∈ l, u.oneCell' = true := fun u hu => by subst h; simp at hu; subst hu; exact h1
theorem len1 {l : List Value} {v : Value} (h : l = [v]) : l.length = 1 := by subst h; rfl
def Sh.int (k : IntKind) : Shape Int := { n := 1, pos := Nat.one_pos, rep := fun _ l x => l = [.int k x], len := len1, one := fun h => one1 h rfl, mono := fun _ h => h }
def Sh.bool : Shape Bool := { n := 1, pos := Nat.one_pos, rep := fun _ l x => l = [.bool x], len := len1, one := fun h => one1 h rfl, mono := fun _ h => h }
def Sh.str : Shape (List UInt8) := { n := 1, pos := Nat.one_pos, rep := fun _ l x => l = [Go.HW.str x], len := len1, one := fun h => one1 h rfl, mono := fun _ h => h }
def Sh.ints (k : IntKind) : Shape (List Int) := { n := 1, pos := Nat.one_pos, rep := fun M l xs => ∃ v, l = [v] ∧ IntRow M k v xs, len := fun ⟨_, h, _⟩ => len1 h, one := fun ⟨_, h, hr⟩ => one1 h (RowV.one hr), mono := fun he ⟨v, h, hr⟩ => ⟨v, h, RowV.mono hr he⟩ }
/-- The i-th part of n cells. -/
def chunk (cs : List Value) (n i : Nat) : List Value := (cs.drop (i * n)).take n
theorem chunk_get {cs : List Value} {n i j : Nat} {q : Value} (h : (chunk cs n i)[j]? = some q) : cs[i * n + j]? = some q := by
  unfold chunk at h
  have hj : j < n := by
    rcases Nat.lt_or_ge j n with h' | h'
    · exact h'
    · rw [List.getElem?_eq_none (by simp; omega)] at h; cases h
  rw [List.getElem?_take_of_lt hj, List.getElem?_drop] at h
  exact h

/-- 'v' is a slice whose elements are 'xs', of this shape; they stay. -/
def RowS {α : Type} (s : Shape α) (M : Mem) (v : Value) (xs : List α) : Prop := ∃ cs, RowV M v s.n xs.length cs ∧ ∀ i x, xs[i]? = some x → s.rep M (chunk cs s.n i) x
theorem RowS.mono {α : Type} {s : Shape α} {M M' : Mem} {v : Value} {xs : List α} (h : RowS s M v xs) (he : Ext M M') : RowS s M' v xs := by
  obtain ⟨cs, h1, h2⟩ := h
  exact ⟨cs, h1.mono he, fun i x hx => s.mono he (h2 i x hx)⟩
theorem RowS.nil {α : Type} (s : Shape α) (M : Mem) : RowS s M (.slice none 0 0) [] := ⟨[], ⟨by simp, none, 0, rfl, Nat.le_refl _, .inl rfl⟩, fun i x hx => by simp at hx⟩
theorem IntRow.nil (k : IntKind) (M : Mem) : IntRow M k (.slice none 0 0) [] := ⟨by simp [encl], none, 0, rfl, Nat.le_refl _, .inl rfl⟩
theorem IntRow.mono {k : IntKind} {M M' : Mem} {v : Value} {xs : List Int} (h : IntRow M k v xs) (he : Ext M M') : IntRow M' k v xs := RowV.mono h he
theorem RowS.sl {α : Type} {s : Shape α} {M : Mem} {v : Value} {xs : List α} (h : RowS s M v xs) : ∃ a c, v = .slice a xs.length c := by
  obtain ⟨cs, h1, _⟩ := h; exact h1.sl
theorem RowS.some {α : Type} {s : Shape α} {M : Mem} {v : Value} {xs : List α} (h : RowS s M v xs) {i : Int} (h0 : 0 ≤ i) (h1 : i < (xs.length : Int)) : ∃ a c, v = .slice (Option.some a) xs.length c := by
  obtain ⟨cs, h2, _⟩ := h; exact h2.some h0 h1
theorem getD_some {α : Type} {xs : List α} {i : Nat} (d : α) (h : i < xs.length) : xs[i]? = Option.some (xs.getD i d) := by simp [h]

/-- An own slice of such elements. -/
def OwnS {α : Type} (s : Shape α) (M : Mem) (v : Value) (cur : Array Value) (xs : List α) : Prop := ∃ cs, OwnV v cur s.n xs.length cs ∧ ∀ i x, xs[i]? = Option.some x → s.rep M (chunk cs s.n i) x
theorem OwnS.mono {α : Type} {s : Shape α} {M M' : Mem} {v : Value} {cur : Array Value} {xs : List α} (h : OwnS s M v cur xs) (he : Ext M M') : OwnS s M' v cur xs := by
  obtain ⟨cs, h1, h2⟩ := h
  exact ⟨cs, h1, fun i x hx => s.mono he (h2 i x hx)⟩
theorem OwnS.nil {α : Type} (s : Shape α) (M : Mem) : OwnS s M (.slice none 0 0) #[] [] := ⟨[], OwnV.nil s.n, fun i x hx => by simp at hx⟩
theorem OwnS.sl {α : Type} {s : Shape α} {M : Mem} {v : Value} {cur : Array Value} {xs : List α} (h : OwnS s M v cur xs) : ∃ a c, v = .slice a xs.length c := by
  obtain ⟨cs, h1, _⟩ := h; exact h1.slice
theorem OwnS.some {α : Type} {s : Shape α} {M : Mem} {v : Value} {cur : Array Value} {xs : List α} (h : OwnS s M v cur xs) {i : Int} (h0 : 0 ≤ i) (h1 : i < (xs.length : Int)) : ∃ a c, v = .slice (Option.some a) xs.length c := by
  obtain ⟨cs, h2, _⟩ := h; exact h2.some h0 h1
/-- What an own slice is when it stays. -/
theorem OwnV.stays {v : Value} {cur : Array Value} {e size n : Nat} {cs : List Value} (h : OwnV v cur size n cs) {M : Mem} (hM : ∀ b, v.ownBlock = Option.some b → M b = Option.some (.cells cur e (0, 0))) : RowV M v size n cs := by
  refine ⟨h.1, ?_⟩
  rcases h.2 with ⟨rfl, rfl⟩ | ⟨g, cap, rfl, k1, k2, k3, k4⟩
  · exact ⟨none, 0, rfl, Nat.le_refl _, .inl rfl⟩
  · refine ⟨_, cap, rfl, k1, .inr ⟨g, 0, cur, e, (0, 0), rfl, hM g rfl, fun i q hq => ?_⟩⟩
    rw [Nat.zero_add]
    rw [← k4] at hq
    have hk : i < n * size := by
      rcases Nat.lt_or_ge i (n * size) with hh | hh
      · exact hh
      · rw [List.getElem?_eq_none (by simp; omega)] at hq; cases hq
    rw [List.getElem?_take_of_lt hk] at hq
    simpa using hq
theorem OwnS.stays {α : Type} {s : Shape α} {v : Value} {cur : Array Value} {e : Nat} {xs : List α} {M M' : Mem} (h : OwnS s M v cur xs) (he : Ext M M') (hM : ∀ b, v.ownBlock = Option.some b → M' b = Option.some (.cells cur e (0, 0))) : RowS s M' v xs := by
  obtain ⟨cs, h1, h2⟩ := h
  exact ⟨cs, h1.stays hM, fun i x hx => s.mono he (h2 i x hx)⟩
theorem IntOwn.stays {k : IntKind} {v : Value} {cur : Array Value} {e : Nat} {xs : List Int} {M' : Mem} (h : IntOwn k v cur xs) (hM : ∀ b, v.ownBlock = Option.some b → M' b = Option.some (.cells cur e (0, 0))) : IntRow M' k v xs := OwnV.stays h hM

def Sh.row {α : Type} (s : Shape α) : Shape (List α) where
  n := 1
  pos := Nat.one_pos
  rep := fun M l xs => ∃ v, l = [v] ∧ RowS s M v xs
  len := fun ⟨_, h, _⟩ => len1 h
  one := fun ⟨_, h, hr⟩ => one1 h (Exists.elim hr fun _ h1 => h1.1.one)
  mono := fun he ⟨v, h, hr⟩ => ⟨v, h, hr.mono he⟩

/-! #### trees -/
inductive Tree (α : Type) where
  | node (a : α) (kids : List (Tree α))
def Tree.val {α : Type} : Tree α → α | .node a _ => a
def Tree.kids {α : Type} : Tree α → List (Tree α) | .node _ k => k
mutual
def Tree.depth {α : Type} : Tree α → Nat
  | .node _ ks => Tree.depths ks + 1
def Tree.depths {α : Type} : List (Tree α) → Nat
  | [] => 0
  | t :: r => Nat.max (Tree.depth t) (Tree.depths r)
end
inductive RepT {α : Type} (s : Shape α) (M : Mem) : List Value → Tree α → Prop
  | mk {l : List Value} {v : Value} {cs : List Value} {a : α} {kids : List (Tree α)} (h1 : s.rep M l a) (h2 : RowV M v (s.n + 1) kids.length cs) (h3 : ∀ i x, kids[i]? = Option.some x → RepT s M (chunk cs (s.n + 1) i) x) : RepT s M (l ++ [v]) (.node a kids)
theorem RepT.mono {α : Type} {s : Shape α} {M M' : Mem} (he : Ext M M') {l : List Value} {t : Tree α} (h : RepT s M l t) : RepT s M' l t := by
  induction h with
  | mk h1 h2 h3 ih => exact .mk (s.mono he h1) (h2.mono he) ih
/-! #### operations -/
section
variable {Kc : Act → World → Prop} {P : Program} {o : Oper} {S : Slots} {w0 : World} {I : Nat → Option Obj} {H : Heap}
theorem q_loadEl {M : Mem} {v q : Value} {n j sz : Nat} {cs : List Value} {t : TypeId} {x : Operand} (hM : ∀ w, Cls w0 I H w → Imm M w) (h : RowV M v sz n cs) (hq : cs[j]? = Option.some q) (ha : ∀ w, (isAgg t).run P w = .ok false w) (ho : o.op = .load t x) (hx : ev S x = Option.some (elp v j)) : FQuiet P o w0 I S H q :=
  fun ρ hρ w hc => .inl (load_row (h.world (hM w hc)) hq ha ho (hρ _ _ hx))

theorem chunk_append {cs ds : List Value} {n i m : Nat} (hl : cs.length = m * n) (h : i < m) : chunk (cs ++ ds) n i = chunk cs n i := by
  unfold chunk
  have h1 : i * n ≤ cs.length := by rw [hl]; exact Nat.mul_le_mul_right _ (Nat.le_of_lt h)
  have h2 : (i + 1) * n ≤ m * n := Nat.mul_le_mul_right _ h
  rw [Nat.add_mul] at h2
  rw [List.drop_append_of_le_length h1, List.take_append_of_le_length (by simp; omega)]
theorem chunk_append' {cs ds : List Value} {n i m : Nat} (hl : cs.length = m * n) : chunk (cs ++ ds) n (m + i) = chunk ds n i := by
  unfold chunk
  rw [Nat.add_mul, ← hl, List.drop_append, List.drop_of_length_le (by omega), List.nil_append]
  congr 2
  omega
theorem reps_append {α : Type} {s : Shape α} {M : Mem} {xs ys : List α} {cs ds : List Value} (hl : cs.length = xs.length * s.n) (h1 : ∀ i x, xs[i]? = Option.some x → s.rep M (chunk cs s.n i) x) (h2 : ∀ i x, ys[i]? = Option.some x → s.rep M (chunk ds s.n i) x) :
    ∀ i x, (xs ++ ys)[i]? = Option.some x → s.rep M (chunk (cs ++ ds) s.n i) x := fun i x hx => by
  rcases Nat.lt_or_ge i xs.length with h | h
  · rw [chunk_append hl h]
    exact h1 i x (by rwa [List.getElem?_append_left h] at hx)
  · obtain ⟨j, rfl⟩ := Nat.exists_eq_add_of_le h
    rw [chunk_append' hl]
    exact h2 j x (by rw [List.getElem?_append_right (by omega)] at hx; simpa using hx)
/-- All cells of a slice's elements are single ones. -/
theorem chunks_one {α : Type} {s : Shape α} {M : Mem} {xs : List α} {cs : List Value} (hl : cs.length = xs.length * s.n) (h : ∀ i x, xs[i]? = Option.some x → s.rep M (chunk cs s.n i) x) : ∀ u ∈ cs, u.oneCell' = true := fun u hu => by
  obtain ⟨k, hk⟩ := List.mem_iff_getElem?.1 hu
  have hlt : k < xs.length * s.n := by
    rcases Nat.lt_or_ge k cs.length with h' | h'
    · omega
    · rw [List.getElem?_eq_none h'] at hk; cases hk
  have hd : k / s.n < xs.length := Nat.div_lt_of_lt_mul (by rw [Nat.mul_comm]; exact hlt)
  have hr := h (k / s.n) xs[k / s.n] (List.getElem?_eq_getElem hd)
  refine s.one hr u ?_
  refine List.mem_iff_getElem?.2 ⟨k % s.n, ?_⟩
  unfold chunk
  rw [List.getElem?_take_of_lt (Nat.mod_lt _ s.pos), List.getElem?_drop, Nat.mul_comm, Nat.div_add_mod]
  exact hk
theorem RowS.src {α : Type} {s : Shape α} {M : Mem} {v : Value} {xs : List α} (h : RowS s M v xs) : ∃ cs, (∀ i x, xs[i]? = Option.some x → s.rep M (chunk cs s.n i) x) ∧ ∀ w, Imm M w → Src w v xs.length s.n cs := by
  obtain ⟨cs, h1, h2⟩ := h
  exact ⟨cs, h2, fun w hi => (h1.world hi).src (chunks_one h1.1 h2)⟩
theorem OwnS.src {α : Type} {s : Shape α} {M : Mem} {v : Value} {cur : Array Value} {xs : List α} {e i : Nat} (h : OwnS s M v cur xs) (hH : H[i]? = Option.some (v.ownBlock, .cells cur e (0, 0))) : ∃ cs, (∀ i x, xs[i]? = Option.some x → s.rep M (chunk cs s.n i) x) ∧ ∀ w, Cls w0 I H w → Src w v xs.length s.n cs := by
  obtain ⟨cs, h1, h2⟩ := h
  exact ⟨cs, h2, fun w hc => OwnV.src h1 hc (List.mem_of_getElem? hH) (chunks_one h1.1 h2)⟩

variable {R : Ending → World → Prop} {N : Nat} {f : FuncId} {K : List Item} {ops : Array Oper} {lab : Lab} {ids : Nat → Option Nat} {l : List Nat} {i d : Nat}
/-- Elements are put behind an own slice. -/
theorem DL.appendS {α : Type} {s : Shape α} {M : Mem} {t e bytes j : Nat} {z : Value} {x y : Operand} {v u : Value} {cur : Array Value} {xs ys : List α} (H' : Value → Array Value → Heap) (E : Elem P t e s.n bytes z) (hH : H[j]? = Option.some (v.ownBlock, .cells cur e (0, 0))) (hown : OwnS s M v cur xs)
    (hb : xs.length + ys.length ≤ 1099511627776) (hby : bytes ≤ 128) (hu : ∃ ds, (∀ i x, ys[i]? = Option.some x → s.rep M (chunk ds s.n i) x) ∧ ∀ w, Cls w0 I H w → Src w u ys.length s.n ds) (hi : ops[i]? = Option.some o) (hw : Wn ops S o true) (hd : o.dst = Option.some d) (hN : Nat.blt d N = true) (hk : (lab i).1 = .actx)
    (ho : o.op = .call { callee := .builtin .append, args := #[x, y], argTypes := #[t, t] }) (hx : ev S x = Option.some v) (hy : ev S y = Option.some u) (hH' : ∀ v cur, H.set j (v.ownBlock, .cells cur e (0, 0)) = H' v cur)
    (h : ∀ v cur, OwnS s M v cur (xs ++ ys) → DK P N w0 I Kc ops lab ids l ((d, v) :: S) (H' v cur)) : DK P N w0 I Kc ops lab ids (i :: l) S H := by
  obtain ⟨cs, h1, h2⟩ := hown
  obtain ⟨ds, g1, g2⟩ := hu
  refine DL.actx hi hw hd hN hk (f_append (w0 := w0) (I := I) E hH h1 hb hby g2 ho hx hy) fun q => ?_
  rw [hH']
  exact h q.1.1 q.1.2 ⟨cs ++ ds, by rw [List.length_append]; exact q.2, reps_append h1.1 h2 g1⟩
end
end Go.HW
end

section
namespace Go.HW
open Go Go.RowKit
set_option linter.unusedVariables false
set_option linter.unusedSimpArgs false

/-! ### texts -/
/-- Numbers as bytes. -/
def bytesL (xs : List Int) : List UInt8 := xs.map fun n => UInt8.ofNat n.toNat
section
variable {P : Program} {o : Oper} {S : Slots} {w0 : World} {I : Mem} {H : Heap} {T U : TypeId} {x y : Operand} {a b : List UInt8}
theorem p_str {op : BinOp} {v : Value} (hr : ∀ w, (binOp op T (str a) (str b)).run P w = .ok v w) (ho : o.op = .binOp op T x y U) (hx : ev S x = some (str a)) (hy : ev S y = some (str b)) : FPure P o S v := fun ρ hρ w => by
  simp only [execOp, ho, hρ _ _ hx, hρ _ _ hy]
  refine val_run ?_
  have hg : (eqGuard op T x y (str a) (str b)).run P w = .ok () w := by
    cases op <;> rfl
  exact (run_of_bind hg).trans (hr w)
theorem p_strEq (ho : o.op = .binOp .eql T x y U) (hx : ev S x = some (str a)) (hy : ev S y = some (str b)) : FPure P o S (.bool (a == b)) := p_str (fun w => by rw [str, str, binOp_string_eql]; simp) ho hx hy
theorem p_strNe (ho : o.op = .binOp .neq T x y U) (hx : ev S x = some (str a)) (hy : ev S y = some (str b)) : FPure P o S (.bool (!(a == b))) := p_str (fun w => by rw [str, str, binOp_string_neq]; simp) ho hx hy
theorem p_strAdd (h : a.length + b.length ≤ 1099511627776) (ho : o.op = .binOp .add T x y U) (hx : ev S x = some (str a)) (hy : ev S y = some (str b)) : FPure P o S (str (a ++ b)) := p_str (fun w => by
  rw [str, str, binOp_string_add, run_string_add_sum w _ _ (by simp [ByteArray.size]; omega), ByteArray.mk_append_mk]; rfl) ho hx hy

/-! ### parts of slices and of texts -/
theorem run_bound {v : Int} {k : IntKind} {y : Nat} {c : BoundsCode} {w : World} (h0 : 0 ≤ v) (h1 : v ≤ (y : Int)) : (Instr.sliceBound (.int k v) y c).run P w = .ok v.toNat w := by
  unfold Instr.sliceBound
  refine (run_of_bind (show (asIntOf (.int k v)).run P w = .ok (k, v) w from rfl)).trans ?_
  simp only [if_pos (And.intro h0 h1)]
  rfl
theorem run_bounds {s : Bool} {n c : Nat} {w : World} (lo hi : Option Value) (l h : Nat) (hh : (hi = none ∧ h = n) ∨ ∃ k, hi = some (.int k (h : Int))) (hl : (lo = none ∧ l = 0) ∨ ∃ k, lo = some (.int k (l : Int))) (h1 : h ≤ c) (h2 : l ≤ h) : (Instr.sliceBounds s n c lo hi none).run P w = .ok (l, h, c) w := by
  unfold Instr.sliceBounds
  refine (run_of_bind (a := c) (w' := w) rfl).trans ?_
  have hlo : ∀ (cd : BoundsCode) (f : Nat → Sem (Nat × Nat × Nat)), (match lo with | some v => (Instr.sliceBound v h cd).bind f | none => (Pure.pure 0 : Sem Nat).bind f).run P w = (f l).run P w := fun cd f => by
    rcases hl with ⟨rfl, rfl⟩ | ⟨k, rfl⟩
    · rfl
    · refine (run_of_bind (run_bound (by omega) (by omega))).trans ?_
      simp
  rcases hh with ⟨rfl, rfl⟩ | ⟨k, rfl⟩
  · refine (run_of_bind (a := h) (w' := w) rfl).trans ?_
    exact (hlo _ _).trans rfl
  · refine (run_of_bind (run_bound (by omega) (by omega))).trans ?_
    simp only [Int.toNat_natCast]
    exact (hlo _ _).trans rfl
/-- A part of a slice. -/
def subsl (v : Value) (sz l h : Nat) : Value := match v with
  | .slice a n c => .slice (if c = l then a else a.map (·.add (l * sz))) (h - l) (c - l)
  | v => v
theorem RowV.sub {M : Mem} {v : Value} {sz n : Nat} {cs : List Value} (hr : RowV M v sz n cs) {l h : Nat} (h1 : h ≤ n) (h2 : l ≤ h) : RowV M (subsl v sz l h) sz (h - l) ((cs.drop (l * sz)).take ((h - l) * sz)) := by
  obtain ⟨h0, a, c, rfl, hc, h3⟩ := hr
  have hmul : h * sz ≤ n * sz := Nat.mul_le_mul_right _ h1
  have hmul2 : l * sz ≤ h * sz := Nat.mul_le_mul_right _ h2
  refine ⟨by simp only [List.length_take, List.length_drop, h0, Nat.sub_mul]; omega, _, _, rfl, by omega, ?_⟩
  rcases h3 with rfl | ⟨b, off, arr, t, z, rfl, e2, e3⟩
  · left; omega
  · by_cases hz : h - l = 0
    · exact .inl hz
    · right
      have : c ≠ l := by omega
      refine ⟨b, off + l * sz, arr, t, z, ?_, e2, fun i q hq => ?_⟩
      · simp [this, add_none]
      · have hi : i < (h - l) * sz := by
          rcases Nat.lt_or_ge i ((h - l) * sz) with h' | h'
          · exact h'
          · rw [List.getElem?_eq_none (by simp; omega)] at hq; cases hq
        rw [List.getElem?_take_of_lt hi, List.getElem?_drop] at hq
        rw [Nat.add_assoc]
        exact e3 _ q hq
theorem run_sub {M : Mem} {v : Value} {sz n e : Nat} {cs : List Value} {lo hi : Option Value} {w : World} {l h : Nat} (hu : ∀ w, (underlying T).run P w = .ok (.slice e) w) (hs : ∀ w, (sizeOf e).run P w = .ok sz w) (hr : RowV M v sz n cs)
    (hh : (hi = none ∧ h = n) ∨ ∃ k, hi = some (.int k (h : Int))) (hl : (lo = none ∧ l = 0) ∨ ∃ k, lo = some (.int k (l : Int))) (h1 : h ≤ n) (h2 : l ≤ h) : (Instr.sliceAt T v lo hi none).run P w = .ok (subsl v sz l h) w := by
  obtain ⟨h0, a, c, rfl, hc, h3⟩ := hr
  unfold Instr.sliceAt
  refine (run_of_bind (hu w)).trans ?_
  unfold Instr.slice
  refine (run_of_bind (hu w)).trans ?_
  refine (run_of_bind (run_bounds lo hi l h hh hl (by omega) h2)).trans ?_
  exact (run_of_bind (hs w)).trans rfl
variable {M : Mem} {v : Value} {sz n e : Nat} {cs : List Value} {i j : Int} {k k2 : IntKind} {z : Operand}
theorem toNat_cast {i : Int} (h : 0 ≤ i) : (i.toNat : Int) = i := Int.toNat_of_nonneg h
theorem p_subL (hu : ∀ w, (underlying T).run P w = .ok (.slice e) w) (hs : ∀ w, (sizeOf e).run P w = .ok sz w) (hr : RowV M v sz n cs) (h0 : 0 ≤ i) (h1 : i ≤ (n : Int)) (ho : o.op = .slice T x (some y) none none) (hx : ev S x = some v) (hy : ev S y = some (.int k i)) : FPure P o S (subsl v sz i.toNat n) := fun ρ hρ w => by
  simp only [execOp, ho, hρ _ _ hx, Option.map_some, hρ _ _ hy, Option.map_none]
  exact val_run (run_sub (P := P) (w := w) hu hs hr (.inl ⟨rfl, rfl⟩) (.inr ⟨k, by rw [toNat_cast h0]⟩) (by omega) (by omega))
theorem IntRow.sub {k : IntKind} {xs : List Int} (hr : IntRow M k v xs) {l h : Nat} (h1 : h ≤ xs.length) (h2 : l ≤ h) : IntRow M k (subsl v 1 l h) ((xs.drop l).take (h - l)) := by
  have := RowV.sub hr h1 h2
  unfold IntRow
  have hl : ((xs.drop l).take (h - l)).length = h - l := by simp; omega
  rw [hl]
  simpa [encl, List.map_take, List.map_drop] using this
theorem IntRow.subL {k : IntKind} {xs : List Int} (hr : IntRow M k v xs) {l : Nat} (h2 : l ≤ xs.length) : IntRow M k (subsl v 1 l xs.length) (xs.drop l) := by
  have := hr.sub (Nat.le_refl _) h2
  rwa [List.take_of_length_le (by simp)] at this
theorem IntRow.subH {k : IntKind} {xs : List Int} (hr : IntRow M k v xs) {h : Nat} (h1 : h ≤ xs.length) : IntRow M k (subsl v 1 0 h) (xs.take h) := by
  have := hr.sub h1 (Nat.zero_le _)
  simpa using this
theorem chunk_sub {cs : List Value} {n i l m : Nat} (h : i < m) : chunk ((cs.drop (l * n)).take (m * n)) n i = chunk cs n (l + i) := by
  unfold chunk
  have h2 : (i + 1) * n ≤ m * n := Nat.mul_le_mul_right _ h
  rw [Nat.add_mul] at h2
  rw [List.drop_take, List.take_take, List.drop_drop, Nat.min_eq_left (by omega), Nat.add_mul]
theorem RowS.sub {α : Type} {s : Shape α} {xs : List α} (hr : RowS s M v xs) {l h : Nat} (h1 : h ≤ xs.length) (h2 : l ≤ h) : RowS s M (subsl v s.n l h) ((xs.drop l).take (h - l)) := by
  obtain ⟨cs, g1, g2⟩ := hr
  have hl : ((xs.drop l).take (h - l)).length = h - l := by simp; omega
  refine ⟨_, by rw [hl]; exact g1.sub h1 h2, fun i x hx => ?_⟩
  have hi : i < h - l := by
    rcases Nat.lt_or_ge i (h - l) with h' | h'
    · exact h'
    · rw [List.getElem?_eq_none (by omega)] at hx; cases hx
  rw [chunk_sub hi]
  refine g2 _ x ?_
  rw [List.getElem?_take_of_lt hi, List.getElem?_drop] at hx
  exact hx
theorem RowS.subL {α : Type} {s : Shape α} {xs : List α} (hr : RowS s M v xs) {l : Nat} (h2 : l ≤ xs.length) : RowS s M (subsl v s.n l xs.length) (xs.drop l) := by
  have := hr.sub (Nat.le_refl _) h2
  rwa [List.take_of_length_le (by simp)] at this
theorem RowS.subH {α : Type} {s : Shape α} {xs : List α} (hr : RowS s M v xs) {h : Nat} (h1 : h ≤ xs.length) : RowS s M (subsl v s.n 0 h) (xs.take h) := by
  have := hr.sub h1 (Nat.zero_le _)
  simpa using this
theorem RowS.V {α : Type} {s : Shape α} {xs : List α} (hr : RowS s M v xs) : ∃ cs, RowV M v s.n xs.length cs := ⟨_, hr.choose_spec.1⟩
/-! ### bytes and texts -/
theorem run_bytesStr {T2 : TypeId} {xs : List Int} {w : World} (hs : P.underlying T = some (.slice e)) (he : P.underlying e = some (.int .u8)) (hd : P.underlying T2 = some .string) (hr : IntRow (heapOf w) .u8 v xs) : (convert T T2 v).run P w = .ok (str (bytesL xs)) w := by
  obtain ⟨h0, a, c, rfl, hc, h3⟩ := hr
  have hstr : Value.string (strOfNums xs) = str (bytesL xs) := by simp [strOfNums, str, bytesL]
  rcases h3 with h3 | ⟨b, off, arr, t, z, rfl, e2, e3⟩
  · have : xs = [] := List.eq_nil_of_length_eq_zero h3
    subst this
    cases a with
    | none => exact (run_convert_bytes_nil w T e hs he 0 c T2 hd).trans rfl
    | some a =>
      obtain ⟨b, off, q⟩ := a
      rw [run_convert_bytes_string w T T2 e _ _ c hs he hd]
      rw [run_bytesToString w _ _ c [] (by simp [loadCells, loadCellsFrom])]
      rfl
  · rw [← hstr]
    exact run_convert_bytes_arg w T e hs he b off _ c xs rfl (fun i hi => by
      rw [cell_of (show w.heap[b]? = _ from e2)]
      exact e3 i _ (encl_get .u8 hi)) T2 hd
theorem q_bytesStr {T2 : TypeId} {xs : List Int} (hs : P.underlying T = some (.slice e)) (he : P.underlying e = some (.int .u8)) (hd : P.underlying T2 = some .string) (hr : ∀ w, Cls w0 I H w → IntRow (heapOf w) .u8 v xs) (ho : o.op = .convert T T2 x) (hx : ev S x = some v) : FQuiet P o w0 I S H (str (bytesL xs)) := fun ρ hρ w hc => .inl (by
  simp only [execOp, ho, hρ _ _ hx]
  exact val_run (run_bytesStr hs he hd (hr w hc)))

/-! ### small things -/
theorem p_min2 {ts : Array TypeId} {p q : Int} (ho : o.op = .call { callee := .builtin .min, args := #[x, y], argTypes := ts }) (hx : ev S x = some (.int k p)) (hy : ev S y = some (.int k2 q)) : FPure P o S (.int k (if q < p then q else p)) := fun ρ hρ w => by
  obtain ⟨cs, h⟩ := run_builtin (P := P) (ρ := ρ) (vs := #[.int k p, .int k2 q]) ho (by simp [hρ _ _ hx, hρ _ _ hy]) w
  rw [h]
  exact val_run (run_min_int2 (P := P) (w := w) _ _ _ _ _ _)
theorem sl_cells {v : Value} {n : Nat} (h : ∃ a c, v = .slice a n c) : v.cells = #[v] := by obtain ⟨a, c, rfl⟩ := h; rfl
theorem sl_one {v : Value} {n : Nat} (h : ∃ a c, v = .slice a n c) : OneCell v := by obtain ⟨a, c, rfl⟩ := h; trivial
theorem one_nil : ∀ u ∈ ([] : List Value), OneCell u := fun u h => by cases h
theorem one_cons {a : Value} {l : List Value} (h : OneCell a) (hl : ∀ u ∈ l, OneCell u) : ∀ u ∈ a :: l, OneCell u := fun u hu => by
  cases hu with
  | head => exact h
  | tail _ h' => exact hl u h'
theorem f_boxSl {t : TypeId} {x : Operand} {v : Value} (hv : v.cells = #[v]) (ho : o.op = .box t x) (hx : ev S x = some v) : FNew P o S (.cells #[v] t) (fun b => ptr b 0) := by
  have := f_box (P := P) (S := S) ho hx
  rwa [hv] at this
/-- The same, in these words. -/
theorem RowS.strs {xs : List (List UInt8)} (h : RowS Sh.str M v xs) : RowV M v 1 xs.length (xs.map str) := by
  obtain ⟨cs, h1, h2⟩ := h
  have : cs = xs.map str := by
    apply List.ext_getElem?
    intro i
    rw [List.getElem?_map]
    cases hx : xs[i]? with
    | none =>
      have := h1.1
      simp only [List.getElem?_eq_none_iff] at hx ⊢
      have h3 : cs.length = xs.length * 1 := h1.1
      simp; omega
    | some s =>
      have h3 : chunk cs 1 i = [str s] := h2 i s hx
      have := chunk_get (cs := cs) (n := 1) (i := i) (j := 0) (q := str s) (by rw [h3]; rfl)
      simpa using this
  rw [← this]; exact h1
theorem strs_get {xs : List (List UInt8)} {i : Nat} (h : i < xs.length) : (xs.map str)[i]? = some (str (xs.getD i [])) := by simp [h]

/-! ### maps with numbers -/
theorem f_lookupOk {t kt e : TypeId} {k : IntKind} {x y : Operand} {b j : Nat} {a : Int} {l : List (Int × Value)} {z : Value} (hm : ∀ w, (underlying t).run P w = .ok (.map kt e) w) (hk : ∀ w, (underlying kt).run P w = .ok (.int k) w) (hz : ∀ w, (zeroValue e).run P w = .ok z w)
    (hH : H[j]? = some (some b, mobj k l)) (ho : o.op = .lookup t x y true) (hx : ev S x = some (.map (some b))) (hy : ev S y = some (.int k a)) : FQuiet P o w0 I S H (.tuple #[(mfind a l).getD z, .bool (mfind a l).isSome]) := fun ρ hρ w hc => .inl (by
  simp only [execOp, ho, hρ _ _ hx, hρ _ _ hy]
  refine val_run ?_
  have hb := hc.own b _ (List.mem_of_getElem? hH)
  obtain ⟨r, h1, h2⟩ := run_findKey_int (P := P) hk a l w
  unfold Instr.lookup
  refine (run_of_bind (hm w)).trans ?_
  refine (run_of_bind (run_getObj hb)).trans ?_
  refine (run_of_bind (x := Pure.pure (ments k 0 l).toArray) (a := (ments k 0 l).toArray) (w' := w) rfl).trans ?_
  refine (run_of_bind (run_checkKey_int hk a _ w)).trans ?_
  refine (run_of_bind h1).trans ?_
  rw [← h2]
  cases r with
  | none => exact (run_of_bind (hz w)).trans rfl
  | some p => rfl)
end
end Go.HW
end

section
namespace Go.HW
open Go Go.RowKit
set_option linter.unusedVariables false
set_option linter.unusedSimpArgs false

section
variable {Kc : Act → World → Prop} {xh : Option Nat} {P : Program} {o : Oper} {S : Slots} {w0 : World} {I M M0 : Mem} {H A J : Heap} {R : Ending → World → Prop} {N : Nat} {f : FuncId} {K : List Item} {ops : Array Oper} {lab : Lab} {ids : Nat → Option Nat} {l : List Nat} {i d : Nat}

theorem chunk1 {cs : List Value} {i : Nat} {v : Value} (h : chunk cs 1 i = [v]) : cs[i]? = some v := by
  have := chunk_get (cs := cs) (n := 1) (i := i) (j := 0) (q := v) (by rw [h]; rfl)
  simpa using this
theorem ints_open {k : IntKind} {l : List Value} {xs : List Int} (h : (Sh.ints k).rep M l xs) : ∃ v, l = [v] ∧ IntRow M k v xs := h
theorem OwnS.row {α : Type} {s : Shape α} {v : Value} {cur : Array Value} {xs : List α} {e i : Nat} (h : OwnS s M v cur xs) {w : World} (he : Ext M (heapOf w)) (hc : Cls w0 I H w) (hH : H[i]? = Option.some (v.ownBlock, .cells cur e (0, 0))) : RowS s (heapOf w) v xs := by
  obtain ⟨cs, h1, h2⟩ := h
  exact ⟨cs, h1.row hc (List.mem_of_getElem? hH), fun i x hx => s.mono he (h2 i x hx)⟩
theorem OwnS.strs {v : Value} {cur : Array Value} {xs : List (List UInt8)} (h : OwnS Sh.str M v cur xs) : OwnV v cur 1 xs.length (xs.map str) := by
  obtain ⟨cs, h1, h2⟩ := h
  have : cs = xs.map str := by
    apply List.ext_getElem?
    intro i
    rw [List.getElem?_map]
    cases hx : xs[i]? with
    | none =>
      have h3 : cs.length = xs.length * 1 := h1.1
      simp only [List.getElem?_eq_none_iff] at hx
      simp; omega
    | some s =>
      have h3 : chunk cs 1 i = [str s] := h2 i s hx
      simpa using chunk1 h3
  rw [← this]; exact h1
theorem DL.appendI {k : IntKind} {t e bytes j : Nat} {x y : Operand} {v u : Value} {cur : Array Value} {xs ys : List Int} (H' : Value → Array Value → Heap) (E : Elem P t e 1 bytes (.int k 0)) (hH : H[j]? = some (v.ownBlock, .cells cur e (0, 0))) (hown : IntOwn k v cur xs)
    (hb : xs.length + ys.length ≤ 1099511627776) (hby : bytes ≤ 128) (hu : ∀ w, Cls w0 I H w → Src w u ys.length 1 (encl k ys)) (hi : ops[i]? = some o) (hw : Wn ops S o true) (hd : o.dst = some d) (hN : Nat.blt d N = true) (hk : (lab i).1 = .actx)
    (ho : o.op = .call { callee := .builtin .append, args := #[x, y], argTypes := #[t, t] }) (hx : ev S x = some v) (hy : ev S y = some u) (hH' : ∀ v cur, H.set j (v.ownBlock, .cells cur e (0, 0)) = H' v cur)
    (h : ∀ v cur, IntOwn k v cur (xs ++ ys) → DK P N w0 I Kc ops lab ids l ((d, v) :: S) (H' v cur)) : DK P N w0 I Kc ops lab ids (i :: l) S H :=
  DL.actx hi hw hd hN hk (f_appendInt (w0 := w0) (I := I) E hH hown hb hby hu ho hx hy) fun q => by rw [hH']; exact h q.1.1 q.1.2 q.2
/-- A new row of such elements. -/
theorem DL.newS {α : Type} {s : Shape α} {zs : List α} {cells : List Value} {e n : Nat} (hz : zs.length = n) (hm : n ≤ maxLen) (hl : cells.length = n * s.n) (hr : ∀ i x, zs[i]? = some x → s.rep M (chunk cells s.n i) x) (hi : ops[i]? = some o) (hw : Wn ops S o true) (hd : o.dst = some d) (hN : Nat.blt d N = true) (hk : (lab i).1 = .alloc)
    (hp : FNew P o S (.cells cells.toArray e) (fun b => .slice (some ⟨b, 0, none⟩) n n)) (h : ∀ v cur, OwnS s M v cur zs → DK P N w0 I Kc ops lab ids l ((d, v) :: S) ((v.ownBlock, .cells cur e (0, 0)) :: H)) : DK P N w0 I Kc ops lab ids (i :: l) S H :=
  DL.new hi hw hd hN hk hp fun b hb => h (.slice (some ⟨b, 0, none⟩) n n) cells.toArray ⟨cells, by
    subst hz
    exact OwnV.fresh (Nat.le_refl _) hm (by simpa using hl) (by rw [List.take_of_length_le]; simp [hl]) hl, hr⟩
theorem f_buildS {t e bytes n sz : Nat} {z : Value} {cells : Array Value} {parts : Array (Nat × Operand)} {vs : List (Nat × Value)} (E : Elem P t e sz bytes z) (hn : Nat.ble (n * sz) 16777216 = true) (h0 : Nat.blt 0 n = true)
    (hf : Instr.fill (fun i => some (i * sz, sz)) ((Array.range (n * sz)).map (z.cells[· % z.cells.size]!)) vs = some cells) (ho : o.op = .buildSlice t n parts) (hp : ∀ ρ, Val S ρ → (parts.map fun p => (p.1, ρ p.2)).toList = vs) :
    FNew P o S (.cells cells e) (fun b => .slice (some ⟨b, 0, none⟩) n n) := fun ρ hρ w => by
  obtain ⟨i, hi, hz, hs, hbb⟩ := E.hi
  have h1 := Nat.le_of_ble_eq_true hn
  have h2 : 0 < n := by simpa [Nat.blt_eq] using h0
  simp only [execOp, ho]
  refine val_run ?_
  refine run_buildSlice w t e n _ _ i _ E.ht hi hz (by rw [hs]; omega) (by rw [hs]; have := Nat.mul_pos h2 E.hs; omega) ?_
  rw [hs, ← hf, ← hp ρ hρ]

/-- Some of what is owned, in another order. -/
def pick (is : List Nat) (H : Heap) : Heap := is.filterMap fun i => H[i]?
theorem pick_nodup {H : Heap} (hn : (H.filterMap Prod.fst).Nodup) : ∀ {is : List Nat}, is.Nodup → ((pick is H).filterMap Prod.fst).Nodup
  | [], _ => List.nodup_nil
  | i :: is, h => by
    obtain ⟨h1, h2⟩ := List.nodup_cons.1 h
    have ih := pick_nodup hn h2
    unfold pick at ih ⊢
    rw [List.filterMap_cons]
    cases hi : H[i]? with
    | none => exact ih
    | some p =>
      obtain ⟨r, o⟩ := p
      cases r with
      | none => simpa using ih
      | some b =>
        simp only [List.filterMap_cons]
        refine List.nodup_cons.2 ⟨fun hm => ?_, ih⟩
        obtain ⟨u, hu⟩ := mem_ids.1 hm
        obtain ⟨j, hj, he⟩ := List.mem_filterMap.1 hu
        have := ids_unique hn hi he
        subst this
        exact h1 hj
theorem Cls.pick {w : World} (is : List Nat) (hn : is.Nodup) (hc : Cls w0 I H w) : Cls w0 I (HW.pick is H) w :=
  ⟨hc.os, hc.tape, hc.output, hc.size, hc.imm, fun b o hm => by
    obtain ⟨i, _, he⟩ := List.mem_filterMap.1 hm
    exact hc.own b o (List.mem_of_getElem? he), fun b o hm => by
    obtain ⟨i, _, he⟩ := List.mem_filterMap.1 hm
    exact hc.disj b o (List.mem_of_getElem? he), pick_nodup hc.nodup hn⟩
theorem TT.pick (is : List Nat) (hn : is.Nodup) (h : TT P f R N w0 I K S (HW.pick is H)) : TT P f R N w0 I K S H := fun a w ha hc => h a w ha (hc.pick is hn)
theorem TT.goto {l : Nat} {K' : List Item} (he : gotoIn l K = some K') (h : TT P f R N w0 I K' S H) : TT P f R N w0 I (.code (.goto l) :: K) S H := fun a w ha hc => T.goto he (h a w ha hc)
theorem TT.scope {c : Code} (h : TT P f R N w0 I (.code c :: .inScope c :: K) S H) : TT P f R N w0 I (.code (.scope c) :: K) S H := fun a w ha hc => T.scope (fun b cs => step_scope) (h a w ha hc)
end
end Go.HW
end

section
namespace Go.HW
open Go Go.RowKit
set_option linter.unusedVariables false
set_option linter.unusedSimpArgs false

/-! ### going over a map of numbers, in whatever order -/
/-- The iterator's block. -/
def iobj (bm n : Nat) (seen : Array Nat) : Obj := .mapIter (some bm) n seen n

section
variable {Kc : Act → World → Prop} {xh : Option Nat} {P : Program} {o : Oper} {S : Slots} {w0 : World} {I : Mem} {H : Heap} {R : Ending → World → Prop} {N : Nat} {f : FuncId} {K : List Item} {ops : Array Oper} {lab : Lab} {ids : Nat → Option Nat} {l : List Nat} {i d : Nat}
theorem DL.range {t kt et : TypeId} {x : Operand} {bm j : Nat} {k : IntKind} {m : List (Int × Value)} (hm : ∀ w, (underlying t).run P w = .ok (.map kt et) w) (hH : H[j]? = some (some bm, mobj k m)) (hi : ops[i]? = some o) (hw : Wn ops S o true) (hd : o.dst = some d) (hN : Nat.blt d N = true) (hk : (lab i).1 = .keep)
    (ho : o.op = .range t x) (hx : ev S x = some (.map (some bm))) (h : ∀ b, DK P N w0 I Kc ops lab ids l ((d, ptr b 0) :: S) ((some b, iobj bm m.length #[]) :: H)) : DK P N w0 I Kc ops lab ids (i :: l) S H :=
  DL.keep (X := Nat) (u := fun b => ptr b 0) (H' := fun b => (some b, iobj bm m.length #[]) :: H) (fun _ p hp => List.mem_cons_of_mem _ hp) hi hw hd hN hk (fun ρ hρ w hc => .inl ⟨w.heap.size, w.alloc (iobj bm m.length #[]), by
    simp only [execOp, ho, hρ _ _ hx]
    refine val_run ?_
    unfold Instr.range
    have hb := hc.own bm _ (List.mem_of_getElem? hH)
    refine (run_of_bind (hm w)).trans ?_
    refine (run_of_bind (run_getObj hb)).trans ?_
    rfl, hc.alloc _⟩) h
end

/-! ### shorter words -/
abbrev kp : Kd × Option Nat := (.pure, none)
abbrev kq : Kd × Option Nat := (.quiet, none)
abbrev kk : Kd × Option Nat := (.keep, none)
abbrev kx : Kd × Option Nat := (.actx, none)
section
variable {Kc : Act → World → Prop} {P : Program} {f : FuncId} {R : Ending → World → Prop} {N : Nat} {w0 : World} {I : Mem} {k : List Item} {S : Slots} {H : Heap}
theorem TT.rg {c : Code} {id : Nat} (l : List Nat) (ll : List (Kd × Option Nat)) (hc : c = .region id (opsOf c) false) (hl : List.range (opsOf c).size = l) (h : DL P f R N w0 I k (opsOf c) (labOf ll) (fun _ => none) l S H) : TT P f R N w0 I (.code c :: k) S H := by
  have h1 := TT.region (id := id) (n := (opsOf c).size) ll rfl (hl ▸ h)
  rwa [← hc] at h1
theorem TT.rgD {c : Code} {id : Nat} (l m : List Nat) (ll : List (Kd × Option Nat)) (hc : c = .region id (opsOf c) true) (hm : P.follows .mixedOrders = true) (hB : okP (opsOf c) (labOf ll) l m = true)
    (h : ∀ w1, Later w0 w1 → (∀ z y b, idsOf H z = some b → idsOf H y = some b → z = y) → (∀ z b, idsOf H z = some b → b < w1.heap.size) → DL P f R N w1 I k (opsOf c) (labOf ll) (idsOf H) l S H) : TT P f R N w0 I (.code c :: k) S H := by
  have h1 := TT.regionD (id := id) l m ll hm hB h
  rwa [← hc] at h1
theorem DL.mv {ops : Array Oper} {lab : Lab} {ids : Nat → Option Nat} {i : Nat} {l : List Nat} {x : Operand} (d : Nat) (v : Value) (hc : chk ops N lab isPure i d = true) (ho : (opAt ops i).op = .move x) (hx : ev S x = some v) (h : DK P N w0 I Kc ops lab ids l ((d, v) :: S) H) : DK P N w0 I Kc ops lab ids (i :: l) S H :=
  DL.pu d v hc (p_move ho hx) h
end
end Go.HW
end

section
namespace Go.HW
open Go Go.RowKit
set_option linter.unusedVariables false
set_option linter.unusedSimpArgs false

/-! ### pointers to structs and arrays -/
section
variable {P : Program} {o : Oper} {S : Slots} {w0 : World} {I : Nat → Option Obj} {H : Heap}
theorem i_loadBoxO {t t' : TypeId} {x : Operand} {b off : Nat} {c : Array Value} {v : Value} {z : Nat × Nat} (hb : I b = some (.cells c t' z)) (hv : c[off]? = some v) (ha : ∀ w, (isAgg t).run P w = .ok false w) (ho : o.op = .load t x) (hx : ev S x = some (ptr b off)) : FImm P o I S v := fun ρ hρ w hi => by
  simp only [execOp, ho, hρ _ _ hx]
  refine val_run ?_
  show ((isAgg t).bind _).run P w = _
  rw [run_of_bind (ha w)]
  exact run_load (by rw [cell_of (hi b _ hb), hv])
end
end Go.HW
end

section
namespace Go.HW
open Go Go.RowKit
set_option linter.unusedVariables false
set_option linter.unusedSimpArgs false

/-! ### append(x, make([]T, m)...) -/
section
variable {Kc : Act → World → Prop} {P : Program} (w : World)
end
section
variable {Kc : Act → World → Prop} {P : Program} {o : Oper} {S : Slots} {w0 : World} {I : Nat → Option Obj} {H : Heap}
variable {R : Ending → World → Prop} {N : Nat} {f : FuncId} {K : List Item} {ops : Array Oper} {lab : Lab} {ids : Nat → Option Nat} {l : List Nat} {i d : Nat}
theorem OwnS.V {α : Type} {s : Shape α} {M : Mem} {v : Value} {cur : Array Value} {xs : List α} (h : OwnS s M v cur xs) : ∃ cs, OwnV v cur s.n xs.length cs := by obtain ⟨cs, h1, _⟩ := h; exact ⟨cs, h1⟩
end
end Go.HW
end

section
namespace Go.HW
open Go Go.RowKit
set_option linter.unusedVariables false
set_option linter.unusedSimpArgs false
section
variable {Kc : Act → World → Prop} {xh : Option Nat} {P : Program} {o : Oper} {S : Slots} {w0 : World} {I M M0 : Mem} {H A J : Heap} {R : Ending → World → Prop} {N : Nat} {f : FuncId} {K : List Item} {ops : Array Oper} {lab : Lab} {ids : Nat → Option Nat} {l : List Nat} {i d : Nat}

/-- A call whose result stays; it may be turned with new blocks. -/
theorem DL.callFf {G : Type} {u : G → Value} {Q : G → Mem → Prop} {cl : Call} {fo : Operand} {g : FuncId} {caps args all : Array Value} {w1 : World} (H' : Heap → Heap) (hle : w0.heap.size ≤ w1.heap.size) (hE : EnvX xh w0 M0 M (addJ I J)) (hH : H = A ++ J) (hH' : ∀ J', A ++ J' = H' J') (he : args ++ caps = all)
    (hi : ops[i]? = some o) (hw : Wn ops S o true) (hd : o.dst = some d) (hN : Nat.blt d N = true) (hk : (lab i).1 = .free) (ho : o.op = .call cl) (hcal : cl.callee = .value fo) (hf : ev S fo = some (.func (.func g) #[] caps)) (hargs : ∀ ρ, Val S ρ → cl.args.map ρ = args)
    (hbody : ∀ w, (callFunc g all).run P w = .ok (.enter g all) w) (hc : ∀ w, Cls w1 I H w → Imm M w → Calls P g all w (PostF u Q M w))
    (h : ∀ g M' J', EnvX xh w0 M0 M' (addJ I J') → Ext M M' → Q g M' → DK P N w1 I Kc ops lab ids l ((d, u g) :: S) (H' J')) : DK P N w1 I Kc ops lab ids (i :: l) S H :=
  DL.free (X := {x : G × Mem × Heap // EnvX xh w0 M0 x.2.1 (addJ I x.2.2) ∧ Ext M x.2.1 ∧ Q x.1 x.2.1 ∧ ∀ p ∈ J, p ∈ x.2.2}) (u := fun x => u x.1.1) (H' := fun x => A ++ x.1.2.2) (fun x p hp => by
      rw [hH] at hp
      rcases List.mem_append.1 hp with hp | hp
      · exact List.mem_append_left _ hp
      · exact List.mem_append_right _ (x.2.2.2.2 p hp)) hi hw hd hN hk
    (fun E ρ hρ w hcl => .inr (.inr ⟨g, all, w, by
      subst he
      simp only [execOp, ho, resolve, hcal, hargs ρ hρ]
      rw [hρ _ _ hf]
      show (callFunc g (#[] ++ args ++ caps)).run P w = _
      simpa using hbody w, by
      have hcl0 : Cls w1 I H w := hcl.fewer (List.sublist_append_right _ _)
      refine (hc w hcl0 (hE.immJ hcl0 hH)).mono fun en w' ⟨g, M', he, hQ, hx, hnew, himm, hbel⟩ => ?_
      subst hH
      have hcl' : Cls w1 I ((E ++ A) ++ J) w := by rw [List.append_assoc]; exact hcl
      obtain ⟨J', h1, h2, h3⟩ := settle_new hle hcl' hE hx hnew himm hbel
      exact ⟨⟨(g, M', J'), h1, hx, hQ, h3⟩, he, by rw [List.append_assoc] at h2; exact h2⟩⟩))
    fun x => by rw [hH']; exact h x.1.1 x.1.2.1 x.1.2.2 x.2.1 x.2.2.1 x.2.2.2.1

end
end Go.HW
end

section
namespace Go.HW
open Go Go.RowKit
set_option linter.unusedVariables false
theorem splice_get : ∀ (vs : List Value) (c : Array Value) (off m : Nat), off + vs.length ≤ c.size → (splice c off vs)[m]? = if off ≤ m ∧ m < off + vs.length then vs[m - off]? else c[m]?
  | [], c, off, m, _ => by simp [splice]; omega
  | v :: vs, c, off, m, h => by
    simp only [List.length_cons] at h ⊢
    show (splice (c.setIfInBounds off v) (off + 1) vs)[m]? = _
    rw [splice_get vs _ (off + 1) m (by simp; omega)]
    by_cases h1 : off + 1 ≤ m ∧ m < off + 1 + vs.length
    · rw [if_pos h1, if_pos (by omega), show m - off = (m - (off + 1)) + 1 by omega, List.getElem?_cons_succ]
    · rw [if_neg h1]
      by_cases h2 : m = off
      · subst h2
        rw [if_pos (by omega), Nat.sub_self, List.getElem?_cons_zero, Array.getElem?_setIfInBounds_self_of_lt (by omega)]
      · rw [if_neg (by omega), Array.getElem?_setIfInBounds_ne (Ne.symm h2)]
/-- an element of an own row is turned -/
theorem OwnS.set {α : Type} {s : Shape α} {M : Mem} {v : Value} {cur : Array Value} {xs : List α} (h : OwnS s M v cur xs) {i : Nat} (hi : i < xs.length) {vs : List Value} {y : α} (hy : s.rep M vs y) (hl : vs.length = s.n) : OwnS s M v (splice cur (i * s.n) vs) (xs.set i y) := by
  obtain ⟨cs, ⟨h1, h2⟩, h3⟩ := h
  rcases h2 with ⟨rfl, h2⟩ | ⟨g, cap, rfl, k1, k2, k3, k4⟩
  · omega
  · have hle : (i + 1) * s.n ≤ xs.length * s.n := Nat.mul_le_mul_right _ hi
    have hle2 : xs.length * s.n ≤ cap * s.n := Nat.mul_le_mul_right _ k1
    rw [Nat.add_mul, Nat.one_mul] at hle
    refine ⟨(splice cur (i * s.n) vs).toList.take (xs.length * s.n), ⟨?_, .inr ⟨g, cap, by rw [List.length_set], by rw [List.length_set]; exact k1, k2, by rw [splice_size]; exact k3, by rw [List.length_set]⟩⟩, fun k x hx => ?_⟩
    · have e0 : (splice cur (i * s.n) vs).toList.length = cap * s.n := by rw [Array.length_toList, splice_size, k3]
      rw [List.length_set, List.length_take, e0]; omega
    · have hk : k < xs.length := by
        have := (List.getElem?_eq_some_iff.1 hx).1
        rwa [List.length_set] at this
      have hkl : (k + 1) * s.n ≤ xs.length * s.n := Nat.mul_le_mul_right _ hk
      rw [Nat.add_mul, Nat.one_mul] at hkl
      have e : ∀ m, (chunk ((splice cur (i * s.n) vs).toList.take (xs.length * s.n)) s.n k)[m]? = if k = i then vs[m]? else (chunk cs s.n k)[m]? := fun m => by
        unfold chunk
        by_cases hm : m < s.n
        · rw [List.getElem?_take_of_lt hm, List.getElem?_drop, List.getElem?_take_of_lt (by omega), Array.getElem?_toList, splice_get _ _ _ _ (by omega)]
          by_cases hki : k = i
          · subst hki
            rw [if_pos (by omega), if_pos rfl]; congr 1; omega
          · rw [if_neg hki, List.getElem?_take_of_lt hm, List.getElem?_drop, ← k4, List.getElem?_take_of_lt (by omega)]
            rcases Nat.lt_or_ge k i with hlt | hge
            · have : (k + 1) * s.n ≤ i * s.n := Nat.mul_le_mul_right _ hlt
              rw [Nat.add_mul, Nat.one_mul] at this
              rw [if_neg (by omega)]; exact Array.getElem?_toList.symm
            · have : (i + 1) * s.n ≤ k * s.n := Nat.mul_le_mul_right _ (by omega)
              rw [Nat.add_mul, Nat.one_mul] at this
              rw [if_neg (by omega)]; exact Array.getElem?_toList.symm
        · rw [List.getElem?_take_eq_none (by omega)]
          split
          · rw [List.getElem?_eq_none (by omega)]
          · rw [List.getElem?_take_eq_none (by omega)]
      by_cases hki : k = i
      · subst hki
        have e2 : chunk ((splice cur (k * s.n) vs).toList.take (xs.length * s.n)) s.n k = vs := List.ext_getElem? fun m => by rw [e m, if_pos rfl]
        rw [e2]
        rw [List.getElem?_set_self hi] at hx
        cases hx; exact hy
      · have e2 : chunk ((splice cur (i * s.n) vs).toList.take (xs.length * s.n)) s.n k = chunk cs s.n k := List.ext_getElem? fun m => by rw [e m, if_neg hki]
        rw [e2]
        rw [List.getElem?_set_ne (Ne.symm hki)] at hx
        exact h3 k x hx
end Go.HW
end

section
namespace Go.HW
open Go Go.RowKit
set_option linter.unusedVariables false

/-! ### a block that a call is handed and turns -/
def I0 (x : Option Nat) (w : World) : Mem := fun b => if x = some b then none else w.heap[b]?
theorem Cls.startX {w : World} {x : Option Nat} {o : Obj} (hx : ∀ b, x = some b → w.heap[b]? = some o) : Cls w (I0 x w) [(x, o)] w := by
  refine ⟨rfl, rfl, rfl, Nat.le_refl _, fun b u e => ?_, fun b u e => ?_, fun b u e => ?_, ?_⟩
  · unfold I0 at e
    split at e
    · cases e
    · exact e
  · simp only [List.mem_singleton, Prod.mk.injEq] at e
    obtain ⟨e1, rfl⟩ := e
    exact hx b e1.symm
  · simp only [List.mem_singleton, Prod.mk.injEq] at e
    unfold I0; rw [if_pos e.1.symm]
  · cases x <;> simp
theorem Env.startX {w : World} {x : Option Nat} {M : Mem} (h : Ext M (heapOf w)) (hx : ∀ b, x = some b → M b = none) : EnvX x w M M (I0 x w) := by
  refine ⟨fun b o e => ?_, fun b o hne e => ?_, Ext.refl _, fun b h1 h2 => absurd h2 h1⟩
  · unfold I0
    by_cases hb : x = some b
    · rw [hx b hb] at e; cases e
    · rw [if_neg hb]; exact h b o e
  · unfold I0; rw [if_neg hne]; exact e

section
variable {Kc : Act → World → Prop} {P : Program} {f : FuncId} {R : Ending → World → Prop} {N : Nat} {w0 w w' w1 : World} {I M M0 M' : Mem} {A J H : Heap} {xh : Option Nat} {k : List Item} {S : Slots}
variable {Kc : Act → World → Prop} {ops : Array Oper} {lab : Lab} {ids : Nat → Option Nat} {l : List Nat} {i d : Nat} {o : Oper}
end
end Go.HW
end

section
namespace Go.HW
open Go Go.RowKit
set_option linter.unusedVariables false
set_option linter.unusedSimpArgs false

/-! ### maps by texts -/
/-- Entries by texts, in the order of their making. -/
def kents : Nat → List (List UInt8 × Value) → List MapEntry
  | _, [] => []
  | n, (s, v) :: r => { key := str s, val := v, born := n } :: kents (n + 1) r
/-- A map's block. -/
def kobj (l : List (List UInt8 × Value)) : Obj := .map (kents 0 l).toArray l.length
/-- .. with one entry more, or another value in its entry -/
def vset (s : List UInt8) (v : Value) : List (List UInt8 × Value) → List (List UInt8 × Value)
  | [] => [(s, v)]
  | (u, x) :: r => if s == u then (s, v) :: r else (u, x) :: vset s v r
section
variable {P : Program} {o : Oper} {S : Slots} {w0 : World} {I : Nat → Option Obj} {H : Heap}
theorem FImm.quiet {M : Mem} {v : Value} (h : FImm P o M S v) (hM : ∀ w, Cls w0 I H w → Imm M w) : FQuiet P o w0 I S H v := fun ρ hρ w hc => .inl (h ρ hρ w (hM w hc))
/-- .. of a map by numbers that stays -/
theorem i_lookupM {t kt e : TypeId} {k : IntKind} {x y : Operand} {b : Nat} {a : Int} {l : List (Int × Value)} {z v : Value} (hm : ∀ w, (underlying t).run P w = .ok (.map kt e) w) (hk : ∀ w, (underlying kt).run P w = .ok (.int k) w) (hz : ∀ w, (zeroValue e).run P w = .ok z w)
    (hb : I b = some (mobj k l)) (hv : (mfind a l).getD z = v) (ho : o.op = .lookup t x y false) (hx : ev S x = some (.map (some b))) (hy : ev S y = some (.int k a)) : FImm P o I S v := fun ρ hρ w hi => by
  have h := f_lookup (P := P) (o := o) (S := S) (w0 := w) (I := fun _ => none) (H := [(some b, mobj k l)]) (j := 0) hm hk hz rfl ho hx hy ρ hρ w ⟨rfl, rfl, rfl, Nat.le_refl _, fun _ _ h => (by cases h), fun c u h => (by simp only [List.mem_singleton, Prod.mk.injEq, Option.some.injEq] at h; rw [h.1, h.2]; exact hi b _ hb), fun _ _ _ => rfl, by simp⟩
  rcases h with h | ⟨f, args, h, _⟩
  · rw [← hv]; exact h
  · simp only [execOp, ho, hρ _ _ hx, hρ _ _ hy] at h
    exfalso
    have h2 : ((Instr.lookup t (.map (some b)) (.int k a) false).bind fun v => Sem.pure (Next.value v)).run P w = .ok (.enter f args) w := h
    rw [Sem.run_bind'] at h2
    cases h3 : (Instr.lookup t (.map (some b)) (.int k a) false).run P w <;> rw [h3] at h2 <;> cases h2
theorem i_lookupMOk {t kt e : TypeId} {k : IntKind} {x y : Operand} {b : Nat} {a : Int} {l : List (Int × Value)} {z v : Value} {q : Bool} (hm : ∀ w, (underlying t).run P w = .ok (.map kt e) w) (hk : ∀ w, (underlying kt).run P w = .ok (.int k) w) (hz : ∀ w, (zeroValue e).run P w = .ok z w)
    (hb : I b = some (mobj k l)) (hv : (mfind a l).getD z = v) (hq : (mfind a l).isSome = q) (ho : o.op = .lookup t x y true) (hx : ev S x = some (.map (some b))) (hy : ev S y = some (.int k a)) : FImm P o I S (.tuple #[v, .bool q]) := fun ρ hρ w hi => by
  have h := f_lookupOk (P := P) (o := o) (S := S) (w0 := w) (I := fun _ => none) (H := [(some b, mobj k l)]) (j := 0) hm hk hz rfl ho hx hy ρ hρ w ⟨rfl, rfl, rfl, Nat.le_refl _, fun _ _ h => (by cases h), fun c u h => (by simp only [List.mem_singleton, Prod.mk.injEq, Option.some.injEq] at h; rw [h.1, h.2]; exact hi b _ hb), fun _ _ _ => rfl, by simp⟩
  rcases h with h | ⟨f, args, h, _⟩
  · rw [← hv, ← hq]; exact h
  · simp only [execOp, ho, hρ _ _ hx, hρ _ _ hy] at h
    exfalso
    have h2 : ((Instr.lookup t (.map (some b)) (.int k a) true).bind fun v => Sem.pure (Next.value v)).run P w = .ok (.enter f args) w := h
    rw [Sem.run_bind'] at h2
    cases h3 : (Instr.lookup t (.map (some b)) (.int k a) true).run P w <;> rw [h3] at h2 <;> cases h2

theorem p_field {T : TypeId} {x : Operand} {vs : Array Value} {i : Nat} {v : Value} (h : ∀ w, (Instr.field T (.agg vs) i).run P w = .ok v w) (ho : o.op = .field T x i) (hx : ev S x = some (.agg vs)) : FPure P o S v := fun ρ hρ w => by
  simp only [execOp, ho, hρ _ _ hx]
  exact val_run (h w)
/-- a whole block that stays -/
theorem i_loadBoxA {t t' : TypeId} {x : Operand} {b n : Nat} {c : Array Value} {z : Nat × Nat} (hb : I b = some (.cells c t' z)) (hn : c.size = n) (ha : ∀ w, (isAgg t).run P w = .ok true w) (hs : ∀ w, (sizeOf t).run P w = .ok n w) (ho : o.op = .load t x) (hx : ev S x = some (ptr b 0)) : FImm P o I S (.agg c) := fun ρ hρ w hi => by
  simp only [execOp, ho, hρ _ _ hx]
  refine val_run ?_
  show ((isAgg t).bind _).run P w = _
  rw [run_of_bind (ha w)]
  show ((sizeOf t).bind _).run P w = _
  rw [run_of_bind (hs w)]
  refine (run_of_bind (run_loadCells (vs := c.toList) (by simpa using hn) (fun k v hk => ?_))).trans (by simp)
  rw [cell_of (hi b _ hb), Nat.zero_add]; simpa using hk
end

/-! #### what they stand for -/
/-- Entries, and what they stand for, one by one. -/
def KRep {α : Type} (sh : Shape α) (M : Mem) : List (List UInt8 × Value) → List (List UInt8 × α) → Prop
  | [], [] => True
  | p :: l, q :: K => p.1 = q.1 ∧ (∃ cs : List Value, p.2 = .agg cs.toArray ∧ sh.rep M cs q.2) ∧ KRep sh M l K
  | _, _ => False
theorem KRep.mono {α : Type} {sh : Shape α} {M M' : Mem} (he : Ext M M') : ∀ {l : List (List UInt8 × Value)} {K : List (List UInt8 × α)}, KRep sh M l K → KRep sh M' l K
  | [], [], _ => trivial
  | _ :: _, _ :: _, ⟨h1, ⟨cs, h2, h3⟩, h4⟩ => ⟨h1, ⟨cs, h2, sh.mono he h3⟩, h4.mono he⟩
  | [], _ :: _, h => h.elim
  | _ :: _, [], h => h.elim
theorem KRep.len {α : Type} {sh : Shape α} {M : Mem} : ∀ {l : List (List UInt8 × Value)} {K : List (List UInt8 × α)}, KRep sh M l K → l.length = K.length
  | [], [], _ => rfl
  | _ :: _, _ :: _, ⟨_, _, h4⟩ => by simp [h4.len]
  | [], _ :: _, h => h.elim
  | _ :: _, [], h => h.elim
theorem KRep.get {α : Type} {sh : Shape α} {M : Mem} : ∀ {l : List (List UInt8 × Value)} {K : List (List UInt8 × α)} {i : Nat} {q : List UInt8 × α}, KRep sh M l K → K[i]? = some q → ∃ cs : List Value, l[i]? = some (q.1, .agg cs.toArray) ∧ sh.rep M cs q.2
  | [], [], i, q, _, h => by simp at h
  | (s, v) :: _, _ :: _, 0, q, ⟨h1, ⟨cs, h2, h3⟩, _⟩, h => by
    simp at h; subst h
    simp only at h1 h2
    subst h1; subst h2
    exact ⟨cs, rfl, h3⟩
  | _ :: _, _ :: _, i + 1, q, ⟨_, _, h4⟩, h => by simpa using h4.get (by simpa using h)
  | [], _ :: _, _, _, h, _ => h.elim
  | _ :: _, [], _, _, h, _ => h.elim
def kset {α : Type} (s : List UInt8) (t : α) : List (List UInt8 × α) → List (List UInt8 × α)
  | [] => [(s, t)]
  | (u, x) :: r => if s == u then (s, t) :: r else (u, x) :: kset s t r
theorem KRep.set {α : Type} {sh : Shape α} {M : Mem} {cs : List Value} {t : α} (s : List UInt8) (hr : sh.rep M cs t) : ∀ {l : List (List UInt8 × Value)} {K : List (List UInt8 × α)}, KRep sh M l K → KRep sh M (vset s (.agg cs.toArray) l) (kset s t K)
  | [], [], _ => ⟨rfl, ⟨cs, rfl, hr⟩, trivial⟩
  | (u, v) :: _, (u', x) :: _, ⟨h1, h2, h4⟩ => by
    simp only at h1 h2
    subst h1
    unfold vset kset
    cases h : (s == u) with
    | true => exact ⟨rfl, ⟨cs, rfl, hr⟩, h4⟩
    | false => exact ⟨rfl, h2, h4.set s hr⟩
  | [], _ :: _, h => h.elim
  | _ :: _, [], h => h.elim
/-- This block's object stands for just this map, in this order. -/
def KE {α : Type} (sh : Shape α) (M : Mem) (o : Obj) (K : List (List UInt8 × α)) : Prop := ∃ l, o = kobj l ∧ KRep sh M l K
theorem KE.mono {α : Type} {sh : Shape α} {M M' : Mem} {o : Obj} {K : List (List UInt8 × α)} (h : KE sh M o K) (he : Ext M M') : KE sh M' o K := by
  obtain ⟨l, h1, h2⟩ := h; exact ⟨l, h1, h2.mono he⟩
/-- In this block lies this map, in whatever order. -/
def KMap {α : Type} (sh : Shape α) (M : Mem) (b : Nat) (K : List (List UInt8 × α)) : Prop := ∃ o K', M b = some o ∧ KE sh M o K' ∧ (K'.map Prod.fst).Nodup ∧ K'.Perm K
theorem KMap.mono {α : Type} {sh : Shape α} {M M' : Mem} {b : Nat} {K : List (List UInt8 × α)} (h : KMap sh M b K) (he : Ext M M') : KMap sh M' b K := by
  obtain ⟨o, K', h1, h2, h3, h4⟩ := h
  exact ⟨o, K', he b o h1, h2.mono he, h3, h4⟩
end Go.HW
end
