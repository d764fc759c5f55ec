import Derived.Test.YtfcedjmgddloiaaDoorHw9
import Derived.Maps.AppendAt
import Derived.Great.BuildSlice
import Derived.Laws.OwnMore
namespace Go.HW
open Go Go.RowKit
set_option linter.unusedVariables false
set_option linter.unusedSimpArgs false

/-! ### slices -/
/-- 'v' is a slice of n elements of 'size' cells each, at the beginning of a row whose cells are 'cur'; what counts are the cells 'cs'. -/
def OwnV (v : Value) (cur : Array Value) (size n : Nat) (cs : List Value) : Prop :=
  cs.length = n * size ∧ ((v = .slice none 0 0 ∧ n = 0) ∨ ∃ g cap, v = .slice (some ⟨g, 0, none⟩) n cap ∧ n ≤ cap ∧ cap ≤ maxLen ∧ cur.size = cap * size ∧ cur.toList.take (n * size) = cs)

theorem OwnV.nil (size : Nat) : OwnV (.slice none 0 0) #[] size 0 [] := ⟨by simp, .inl ⟨rfl, rfl⟩⟩
theorem OwnV.fresh {size n cap g : Nat} {cur : Array Value} {cs : List Value} (h1 : n ≤ cap) (h2 : cap ≤ maxLen) (h3 : cur.size = cap * size) (h4 : cur.toList.take (n * size) = cs) (h5 : cs.length = n * size) : OwnV (.slice (some ⟨g, 0, none⟩) n cap) cur size n cs :=
  ⟨h5, .inr ⟨g, cap, rfl, h1, h2, h3, h4⟩⟩
theorem OwnV.slice {v : Value} {cur : Array Value} {size n : Nat} {cs : List Value} (h : OwnV v cur size n cs) : ∃ a c, v = .slice a n c := by
  rcases h.2 with ⟨rfl, rfl⟩ | ⟨g, cap, rfl, _⟩
  · exact ⟨none, 0, rfl⟩
  · exact ⟨_, _, rfl⟩
theorem OwnV.owns {w0 w : World} {I : Nat → Option Obj} {H : Heap} {v : Value} {cur : Array Value} {size n e : Nat} {cs : List Value} (h : OwnV v cur size n cs) (hc : Cls w0 I H w) (hm : (v.ownBlock, .cells cur e (0, 0)) ∈ H) : w.ownsRow 0 e size v n cs := by
  refine ⟨h.1, ?_⟩
  rcases h.2 with h1 | ⟨g, cap, rfl, k1, k2, k3, k4⟩
  · exact .inl h1
  · exact .inr ⟨g, cap, cur, rfl, Nat.zero_le _, hc.own g _ hm, k1, k2, k3, k4⟩

section
variable {P : Program} {o : Oper} {S : Slots} {w0 : World} {I : Nat → Option Obj} {H : Heap}

/-- What is known of a type that a slice holds. -/
structure Elem (P : Program) (t e size bytes : Nat) (z : Value) : Prop where
  ht : P.underlying t = some (.slice e)
  hi : ∃ i, P.info? e = some i ∧ i.zero = some z ∧ i.size = size ∧ i.bytes = bytes
  hz : z.cells.size = size
  hs : 0 < size

theorem Elem.of {t e size bytes : Nat} {z : Value} (ht : P.underlying t = some (.slice e)) (hi : (P.info? e).map (fun i => (i.zero, i.size, i.bytes)) = some (some z, size, bytes)) (hz : z.cells.size = size) (hs : 0 < size) : Elem P t e size bytes z := by
  cases hie : P.info? e with
  | none => rw [hie] at hi; cases hi
  | some i =>
    rw [hie] at hi
    simp only [Option.map_some, Option.some.injEq, Prod.mk.injEq] at hi
    exact ⟨ht, ⟨i, hie, hi.1, hi.2.1, hi.2.2⟩, hz, hs⟩
/-- 'u' is a slice of m elements whose cells are 'news'. -/
def Src (w : World) (u : Value) (m size : Nat) (news : List Value) : Prop := news.length = m * size ∧ (∀ x ∈ news, x.oneCell' = true) ∧ ((∃ c, u = .slice none 0 c ∧ m = 0) ∨ ∃ a c, u = .slice (some a) m c ∧ ∀ k q, news[k]? = some q → w.cell? (a.add k) = some q)

theorem own_inhabited {size n : Nat} {cs : List Value} (hn : n ≤ maxLen) (hl : cs.length = n * size) : Nonempty {x : Value × Array Value // OwnV x.1 x.2 size n cs} :=
  ⟨⟨(.slice (some ⟨0, 0, none⟩) n n, cs.toArray), OwnV.fresh (Nat.le_refl _) hn (by simpa using hl) (by simp [← hl]) hl⟩⟩

/-- The cells of an own row as a source. -/
theorem OwnV.src {w : World} {v : Value} {cur : Array Value} {e size n : Nat} {cs : List Value} (h : OwnV v cur size n cs) (hc : Cls w0 I H w) (hm : (v.ownBlock, .cells cur e (0, 0)) ∈ H) (h1 : ∀ x ∈ cs, x.oneCell' = true) : Src w v n size cs := by
  refine ⟨h.1, h1, ?_⟩
  rcases h.2 with ⟨rfl, rfl⟩ | ⟨g, cap, rfl, k1, k2, k3, k4⟩
  · exact .inl ⟨0, rfl, rfl⟩
  · refine .inr ⟨_, _, rfl, fun k q hq => ?_⟩
    have hb := hc.own g _ hm
    rw [add_none, Nat.zero_add, cell_of hb]
    rw [← k4] at hq
    have hk : k < n * size := by
      rcases Nat.lt_or_ge k (n * size) with hh | hh
      · exact hh
      · rw [List.getElem?_eq_none (by simp; omega)] at hq; cases hq
    rw [List.getElem?_take_of_lt hk] at hq
    simpa using hq

/-- 'v' is a slice of n elements of 'size' cells each; its cells, as 'M' has them, are 'cs'. -/
def RowV (M : Nat → Option Obj) (v : Value) (size n : Nat) (cs : List Value) : Prop := cs.length = n * size ∧ ∃ a c, v = .slice a n c ∧ n ≤ c ∧
  (n = 0 ∨ ∃ b off arr t z, a = some ⟨b, off, none⟩ ∧ M b = some (.cells arr t z) ∧ ∀ i q, cs[i]? = some q → arr[off + i]? = some q)
theorem RowV.mono {M M' : Nat → Option Obj} {v : Value} {size n : Nat} {cs : List Value} (h : RowV M v size n cs) (hm : ∀ b o, M b = some o → M' b = some o) : RowV M' v size n cs := by
  obtain ⟨h0, a, c, h1, h2, h3⟩ := h
  refine ⟨h0, a, c, h1, h2, h3.imp id ?_⟩
  rintro ⟨b, off, arr, t, z, e1, e2, e3⟩
  exact ⟨b, off, arr, t, z, e1, hm b _ e2, e3⟩
theorem RowV.world {I : Nat → Option Obj} {v : Value} {size n : Nat} {cs : List Value} (h : RowV I v size n cs) {w : World} (hi : Imm I w) : RowV (heapOf w) v size n cs := h.mono fun b o e => hi b o e
theorem OwnV.row {v : Value} {cur : Array Value} {e size n : Nat} {cs : List Value} (h : OwnV v cur size n cs) {w : World} (hc : Cls w0 I H w) (hm : (v.ownBlock, .cells cur e (0, 0)) ∈ H) : RowV (heapOf w) v size n cs := by
  refine ⟨h.1, ?_⟩
  rcases h.2 with ⟨rfl, rfl⟩ | ⟨g, cap, rfl, k1, k2, k3, k4⟩
  · exact ⟨none, 0, rfl, Nat.le_refl _, .inl rfl⟩
  · refine ⟨_, cap, rfl, k1, .inr ⟨g, 0, cur, e, (0, 0), rfl, hc.own g _ hm, fun i q hq => ?_⟩⟩
    rw [Nat.zero_add]
    rw [← k4] at hq
    have hk : i < n * size := by
      rcases Nat.lt_or_ge i (n * size) with hh | hh
      · exact hh
      · rw [List.getElem?_eq_none (by simp; omega)] at hq; cases hq
    rw [List.getElem?_take_of_lt hk] at hq
    simpa using hq
theorem RowV.src {w : World} {v : Value} {size n : Nat} {cs : List Value} (h : RowV (heapOf w) v size n cs) (h1 : ∀ x ∈ cs, x.oneCell' = true) : Src w v n size cs := by
  obtain ⟨h0, a, c, rfl, h2, h3⟩ := h
  refine ⟨h0, h1, ?_⟩
  rcases h3 with h3 | ⟨b, off, arr, t, z, rfl, e2, e3⟩
  · subst h3
    have : cs = [] := List.eq_nil_of_length_eq_zero (by simpa using h0)
    subst this
    cases a with
    | none => exact .inl ⟨c, rfl, rfl⟩
    | some a => exact .inr ⟨a, c, rfl, fun k q hq => by simp at hq⟩
  · refine .inr ⟨_, c, rfl, fun k q hq => ?_⟩
    rw [add_none, cell_of (show w.heap[b]? = _ from e2)]
    exact e3 k q hq

/-- Numbers as cells. -/
def encl (k : IntKind) (xs : List Int) : List Value := xs.map (Value.int k)
theorem encl_one (k : IntKind) (xs : List Int) : ∀ x ∈ encl k xs, x.oneCell' = true := fun x hx => by
  obtain ⟨y, _, rfl⟩ := List.mem_map.1 hx; rfl
theorem p_slLen {T e : TypeId} {x : Operand} {v : Value} {n : Nat} (hu : ∀ w, (underlying T).run P w = .ok (.slice e) w) (hv : ∃ a c, v = .slice a n c) (ho : o.op = .call { callee := .builtin .len, args := #[x], argTypes := #[T] }) (hx : ev S x = some v) : FPure P o S (.int .i64 (n : Int)) := fun ρ hρ w => by
  obtain ⟨a, c, rfl⟩ := hv
  obtain ⟨cs, h⟩ := run_builtin (P := P) (ρ := ρ) (vs := #[.slice a n c]) ho (by simp [hρ _ _ hx]) w
  rw [h]
  refine val_run ?_
  unfold Builtin.len_
  exact (run_of_bind (hu w)).trans rfl
theorem OwnV.sl {v : Value} {cur : Array Value} {size n : Nat} {cs : List Value} (h : OwnV v cur size n cs) : ∃ a c, v = .slice a n c := h.slice
theorem RowV.sl {M : Nat → Option Obj} {v : Value} {size n : Nat} {cs : List Value} (h : RowV M v size n cs) : ∃ a c, v = .slice a n c := by
  obtain ⟨_, a, c, h1, _⟩ := h; exact ⟨a, c, h1⟩

theorem OwnV.some {v : Value} {cur : Array Value} {size n : Nat} {cs : List Value} (h : OwnV v cur size n cs) {i : Int} (h0 : 0 ≤ i) (h1 : i < (n : Int)) : ∃ a c, v = .slice (some a) n c := by
  rcases h.2 with ⟨_, rfl⟩ | ⟨g, cap, rfl, _⟩
  · omega
  · exact ⟨_, _, rfl⟩
theorem RowV.some {M : Nat → Option Obj} {v : Value} {size n : Nat} {cs : List Value} (h : RowV M v size n cs) {i : Int} (h0 : 0 ≤ i) (h1 : i < (n : Int)) : ∃ a c, v = .slice (some a) n c := by
  obtain ⟨_, a, c, rfl, _, h3⟩ := h
  rcases h3 with rfl | ⟨b, off, arr, t, z, rfl, _⟩
  · omega
  · exact ⟨_, _, rfl⟩

/-- A store into a cell of an own row. -/
theorem OwnV.set {v q : Value} {cur : Array Value} {n j sz : Nat} {cs : List Value} (h : OwnV v cur sz n cs) (hj : j < n * sz) : OwnV v (cur.setIfInBounds j q) sz n (cs.set j q) := by
  refine ⟨by rw [List.length_set]; exact h.1, ?_⟩
  rcases h.2 with ⟨rfl, rfl⟩ | ⟨g, cap, rfl, k1, k2, k3, k4⟩
  · simp at hj
  · refine .inr ⟨g, cap, rfl, k1, k2, by simpa using k3, ?_⟩
    rw [← k4, Array.toList_setIfInBounds, List.take_set]
/-! #### slices of numbers -/
def IntOwn (k : IntKind) (v : Value) (cur : Array Value) (xs : List Int) : Prop := OwnV v cur 1 xs.length (encl k xs)
def IntRow (M : Nat → Option Obj) (k : IntKind) (v : Value) (xs : List Int) : Prop := RowV M v 1 xs.length (encl k xs)
theorem IntOwn.row {k : IntKind} {v : Value} {cur : Array Value} {e i : Nat} {xs : List Int} (h : IntOwn k v cur xs) {w : World} (hc : Cls w0 I H w) (hH : H[i]? = some (v.ownBlock, .cells cur e (0, 0))) : IntRow (heapOf w) k v xs := OwnV.row h hc (List.mem_of_getElem? hH)
theorem IntRow.world {k : IntKind} {v : Value} {xs : List Int} (h : IntRow I k v xs) {w : World} (hc : Cls w0 I H w) : IntRow (heapOf w) k v xs := RowV.world h hc.imm
theorem IntOwn.src {k : IntKind} {v : Value} {cur : Array Value} {e i : Nat} {xs : List Int} (h : IntOwn k v cur xs) {w : World} (hc : Cls w0 I H w) (hH : H[i]? = some (v.ownBlock, .cells cur e (0, 0))) : Src w v xs.length 1 (encl k xs) := OwnV.src h hc (List.mem_of_getElem? hH) (encl_one k xs)
theorem IntRow.src {k : IntKind} {v : Value} {xs : List Int} (h : IntRow I k v xs) {w : World} (hc : Cls w0 I H w) : Src w v xs.length 1 (encl k xs) := RowV.src (RowV.world h hc.imm) (encl_one k xs)
theorem IntOwn.nil (k : IntKind) : IntOwn k (.slice none 0 0) #[] [] := OwnV.nil 1
theorem IntOwn.set {k : IntKind} {v : Value} {cur : Array Value} {xs : List Int} (h : IntOwn k v cur xs) {j : Nat} (hj : j < xs.length) (q : Int) : IntOwn k v (cur.setIfInBounds j (.int k q)) (xs.set j q) := by
  have := OwnV.set (q := .int k q) h (j := j) (by omega)
  unfold IntOwn
  rw [List.length_set]
  simpa [encl, List.map_set] using this
theorem own_any (k : IntKind) {xs : List Int} (h : xs.length ≤ maxLen) : Nonempty {x : Value × Array Value // IntOwn k x.1 x.2 xs} := own_inhabited h (by simp [encl])

variable {R : Ending → World → Prop} {N : Nat} {f : FuncId} {K : List Item} {ops : Array Oper} {lab : Lab} {ids : Nat → Option Nat} {l : List Nat} {i d : Nat}

/-- An operation that gives an own slice of numbers. -/
theorem DL.own {k : IntKind} {zs : List Int} {H' : Value → Array Value → Heap} (hz : zs.length ≤ 1099511627776) (hi : ops[i]? = some o) (hw : Wn ops S o true) (hd : o.dst = some d) (hN : Nat.blt d N = true) (hk : (lab i).1 = .act)
    {HH : {x : Value × Array Value // IntOwn k x.1 x.2 zs} → Heap} (hp : FAct P o w0 I S H {x : Value × Array Value // IntOwn k x.1 x.2 zs} (fun x => x.1.1) HH) (hH : ∀ x, HH x = H' x.1.1 x.1.2)
    (h : ∀ v cur, IntOwn k v cur zs → DL P f R N w0 I K ops lab ids l ((d, v) :: S) (H' v cur)) : DL P f R N w0 I K ops lab ids (i :: l) S H :=
  DL.act (own_any k (by simp [maxLen]; omega)) hi hw hd hN hk hp fun x => by rw [hH]; exact h x.1.1 x.1.2 x.2

theorem Cls.more {w w' : World} (hc : Cls w0 I H w) (hb : Below w.heap.size w w') {r : Option Nat} {ob : Obj} (hr : ∀ b, r = some b → w.heap.size ≤ b ∧ w'.heap[b]? = some ob) : Cls w0 I ((r, ob) :: H) w' := by
  have h1 := hc.below hb
  cases r with
  | none => exact h1.nothing ob
  | some b =>
    obtain ⟨h2, h3⟩ := hr b rfl
    refine ⟨h1.os, h1.tape, h1.output, h1.size, h1.imm, fun c u hm => ?_, fun c u hm => ?_, ?_⟩
    · cases hm with
      | head => exact h3
      | tail _ hm => exact h1.own c u hm
    · cases hm with
      | head =>
        cases hI : I b with
        | none => rfl
        | some u => have := lt_of_get (hc.imm b u hI); omega
      | tail _ hm => exact h1.disj c u hm
    · simp only [List.filterMap_cons]
      refine List.nodup_cons.2 ⟨fun hm => ?_, h1.nodup⟩
      obtain ⟨u, hu⟩ := mem_ids.1 hm
      have := lt_of_get (hc.own b u hu)
      omega
theorem made_replicate (z : Value) (n : Nat) : madeCells #[z] n = (List.replicate n z).toArray := by
  apply Array.ext
  · simp [madeCells]
  · intro i h1 h2
    simp [madeCells, Nat.mod_one]
theorem f_make {t e bytes n : Nat} {k k1 k2 : IntKind} {x y : Operand} (E : Elem P t e 1 bytes (.int k 0)) (hn : n ≤ 1099511627776) (hby : bytes ≤ 128) (ho : o.op = .makeSlice t x y) (hx : ev S x = some (.int k1 (n : Int))) (hy : ev S y = some (.int k2 (n : Int))) :
    FNew P o S (.cells (enc k (List.replicate n 0)) e) (fun b => .slice (some ⟨b, 0, none⟩) n n) := fun ρ hρ w => by
  obtain ⟨i, hi, hz, hs, hbb⟩ := E.hi
  simp only [execOp, ho, hρ _ _ hx, hρ _ _ hy]
  refine val_run ?_
  have hbn : i.bytes * n ≤ 128 * 1099511627776 := Nat.mul_le_mul (by omega) hn
  have hb' : (i.bytes : Int) * (n : Int) ≤ 281474976710656 := by
    have h : ((i.bytes * n : Nat) : Int) ≤ 281474976710656 := by omega
    rwa [Int.natCast_mul] at h
  have hr := run_make (P := P) w t e i _ E.ht hi hz k1 k2 n n (by omega) (Int.le_refl _) hb' (by omega)
  simp only [Int.toNat_natCast] at hr
  rw [hr, hs, Nat.mul_one, show (Value.int k 0).cells = #[Value.int k 0] from rfl, made_replicate]
  simp [enc]
theorem args_val2 {parts : Array (Nat × Operand)} {vs : List (Nat × Value)} (h : evps S parts.toList = some vs) : ∀ ρ, Val S ρ → (parts.map fun p => (p.1, ρ p.2)).toList = vs := fun ρ hρ => by rw [Array.toList_map]; exact evps_val hρ _ _ h
end
end Go.HW
