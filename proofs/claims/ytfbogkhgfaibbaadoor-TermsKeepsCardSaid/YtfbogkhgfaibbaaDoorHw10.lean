import Derived.Test.YtfbogkhgfaibbaaDoorHw9
import Derived.Maps.AppendAt
import Derived.Great.BuildSlice
import Derived.Laws.OwnMore
namespace Go.HW
open Go Go.RowKit
set_option linter.unusedVariables false
set_option linter.unusedSimpArgs false

/-! ### slices -/
/-- 'v' is a slice of n elements of 'size' cells each, at the beginning of a row whose cells are 'cur'; what counts are the cells 'cs'. -/
def OwnV (v : Value) (cur : Array Value) (size n : Nat) (cs : List Value) : Prop :=
  cs.length = n * size ∧ ((v = .slice none 0 0 ∧ n = 0) ∨ ∃ g cap, v = .slice (some ⟨g, 0, none⟩) n cap ∧ n ≤ cap ∧ cap ≤ maxLen ∧ cur.size = cap * size ∧ cur.toList.take (n * size) = cs)

theorem OwnV.nil (size : Nat) : OwnV (.slice none 0 0) #[] size 0 [] := ⟨by simp, .inl ⟨rfl, rfl⟩⟩
theorem OwnV.fresh {size n cap g : Nat} {cur : Array Value} {cs : List Value} (h1 : n ≤ cap) (h2 : cap ≤ maxLen) (h3 : cur.size = cap * size) (h4 : cur.toList.take (n * size) = cs) (h5 : cs.length = n * size) : OwnV (.slice (some ⟨g, 0, none⟩) n cap) cur size n cs :=
  ⟨h5, .inr ⟨g, cap, rfl, h1, h2, h3, h4⟩⟩
theorem OwnV.slice {v : Value} {cur : Array Value} {size n : Nat} {cs : List Value} (h : OwnV v cur size n cs) : ∃ a c, v = .slice a n c := by
  rcases h.2 with ⟨rfl, rfl⟩ | ⟨g, cap, rfl, _⟩
  · exact ⟨none, 0, rfl⟩
  · exact ⟨_, _, rfl⟩
theorem OwnV.owns {w0 w : World} {I : Nat → Option Obj} {H : Heap} {v : Value} {cur : Array Value} {size n e : Nat} {cs : List Value} (h : OwnV v cur size n cs) (hc : Cls w0 I H w) (hm : (v.ownBlock, .cells cur e (0, 0)) ∈ H) : w.ownsRow 0 e size v n cs := by
  refine ⟨h.1, ?_⟩
  rcases h.2 with h1 | ⟨g, cap, rfl, k1, k2, k3, k4⟩
  · exact .inl h1
  · exact .inr ⟨g, cap, cur, rfl, Nat.zero_le _, hc.own g _ hm, k1, k2, k3, k4⟩

theorem nodup_of : ∀ {l : Heap}, (∀ (i k b : Nat) (u u' : Obj), l[i]? = some (some b, u) → l[k]? = some (some b, u') → i = k) → (l.filterMap Prod.fst).Nodup
  | [], _ => List.nodup_nil
  | (x, u) :: l, h => by
    have hl : (l.filterMap Prod.fst).Nodup := nodup_of fun i k b u u' h1 h2 => by
      have := h (i + 1) (k + 1) b u u' (by simpa using h1) (by simpa using h2)
      omega
    cases x with
    | none => simpa using hl
    | some b =>
      simp only [List.filterMap_cons]
      refine List.nodup_cons.2 ⟨fun hm => ?_, hl⟩
      obtain ⟨u', hu'⟩ := mem_ids.1 hm
      obtain ⟨k, hk⟩ := List.mem_iff_getElem?.1 hu'
      have := h 0 (k + 1) b u u' rfl (by simpa using hk)
      omega
theorem Cls.grown {w0 w w' : World} {I : Nat → Option Obj} {H : Heap} {j : Nat} {r r' : Option Nat} {o o' : Obj} (hc : Cls w0 I H w) (hj : H[j]? = some (r, o)) (hg : w.grownBy w' r) (hr : r' = r ∨ r' = some w.heap.size) (ho : ∀ b, r' = some b → w'.heap[b]? = some o') :
    Cls w0 I (H.set j (r', o')) w' := by
  have hlt : j < H.length := by
    rcases Nat.lt_or_ge j H.length with h | h
    · exact h
    · rw [List.getElem?_eq_none h] at hj; cases hj
  have hmem : (r, o) ∈ H := List.mem_of_getElem? hj
  have hget : H[j] = (r, o) := by rw [List.getElem?_eq_getElem hlt] at hj; exact Option.some.inj hj
  have hsplit : ∀ (k : Nat) c u, (H.set j (r', o'))[k]? = some (some c, u) → (k = j ∧ r' = some c ∧ u = o') ∨ (k ≠ j ∧ H[k]? = some (some c, u) ∧ some c ≠ r) := fun k c u hk => by
    rw [List.getElem?_set] at hk
    by_cases hkj : j = k
    · subst hkj
      simp [hlt] at hk
      exact .inl ⟨rfl, hk.1, hk.2.symm⟩
    · simp [hkj] at hk
      refine .inr ⟨fun e => hkj e.symm, hk, fun e => ?_⟩
      rw [← e] at hj
      exact hkj (ids_unique hc.nodup hj hk)
  have hold : ∀ b u, w.heap[b]? = some u → some b ≠ r → w'.heap[b]? = some u := fun b u hb hne => by rw [hg.block b (lt_of_get hb) hne]; exact hb
  refine ⟨hg.os.trans hc.os, hg.tape.trans hc.tape, hg.output.trans hc.output, Nat.le_trans hc.size hg.size, fun b u hI => ?_, fun b u hm => ?_, fun b u hm => ?_, ?_⟩
  · refine hold b u (hc.imm b u hI) fun e => ?_
    have := hc.disj b o (by rw [e]; exact hmem)
    rw [this] at hI; cases hI
  · obtain ⟨k, hk⟩ := List.mem_iff_getElem?.1 hm
    rcases hsplit k b u hk with ⟨_, h1, rfl⟩ | ⟨_, h1, h2⟩
    · exact ho b h1
    · exact hold b u (hc.own b u (List.mem_of_getElem? h1)) h2
  · obtain ⟨k, hk⟩ := List.mem_iff_getElem?.1 hm
    rcases hsplit k b u hk with ⟨_, h1, rfl⟩ | ⟨_, h1, _⟩
    · rcases hr with h2 | h2
      · exact hc.disj b o (by rw [← h1, h2]; exact hmem)
      · rw [h2] at h1
        cases hI : I b with
        | none => rfl
        | some u =>
          have := lt_of_get (hc.imm b u hI)
          cases h1; omega
    · exact hc.disj b u (List.mem_of_getElem? h1)
  · refine nodup_of fun i k b u u' h1 h2 => ?_
    rcases hsplit i b u h1 with ⟨e1, g1, _⟩ | ⟨e1, g1, n1⟩ <;> rcases hsplit k b u' h2 with ⟨e2, g2, _⟩ | ⟨e2, g2, n2⟩
    · omega
    · exfalso
      rcases hr with h3 | h3
      · exact n2 (by rw [← g1, h3])
      · rw [h3] at g1
        have := lt_of_get (hc.own b u' (List.mem_of_getElem? g2))
        cases g1; omega
    · exfalso
      rcases hr with h3 | h3
      · exact n1 (by rw [← g2, h3])
      · rw [h3] at g2
        have := lt_of_get (hc.own b u (List.mem_of_getElem? g1))
        cases g2; omega
    · exact ids_unique hc.nodup g1 g2

section
variable {Kc : Act → World → Prop} {P : Program} {o : Oper} {S : Slots} {w0 : World} {I : Nat → Option Obj} {H : Heap}

/-- What is known of a type that a slice holds. -/
structure Elem (P : Program) (t e size bytes : Nat) (z : Value) : Prop where
  ht : P.underlying t = some (.slice e)
  hi : ∃ i, P.info? e = some i ∧ i.zero = some z ∧ i.size = size ∧ i.bytes = bytes
  hz : z.cells.size = size
  hs : 0 < size

theorem Elem.of {t e size bytes : Nat} {z : Value} (ht : P.underlying t = some (.slice e)) (hi : (P.info? e).map (fun i => (i.zero, i.size, i.bytes)) = some (some z, size, bytes)) (hz : z.cells.size = size) (hs : 0 < size) : Elem P t e size bytes z := by
  cases hie : P.info? e with
  | none => rw [hie] at hi; cases hi
  | some i =>
    rw [hie] at hi
    simp only [Option.map_some, Option.some.injEq, Prod.mk.injEq] at hi
    exact ⟨ht, ⟨i, hie, hi.1, hi.2.1, hi.2.2⟩, hz, hs⟩
/-- 'u' is a slice of m elements whose cells are 'news'. -/
def Src (w : World) (u : Value) (m size : Nat) (news : List Value) : Prop := news.length = m * size ∧ (∀ x ∈ news, x.oneCell' = true) ∧ ((∃ c, u = .slice none 0 c ∧ m = 0) ∨ ∃ a c, u = .slice (some a) m c ∧ ∀ k q, news[k]? = some q → w.cell? (a.add k) = some q)

theorem run_append_none {t ty e size bytes : Nat} {z : Value} (E : Elem P t e size bytes z) {v : Value} {cur : Array Value} {n c : Nat} {cs : List Value} (h : OwnV v cur size n cs) (w : World) :
    (Builtin.append_ #[t, t] ty #[v, .slice none 0 c]).run P w = .ok v w := by
  obtain ⟨i, hi, -⟩ := E.hi
  rcases h.2 with ⟨rfl, rfl⟩ | ⟨g, cap, rfl, k1, _⟩
  · simp [Builtin.append_, run_underlying E.ht, sizeOf, typeInfo, hi, Builtin.lenOf, Builtin.firstCells]
  · simp [Builtin.append_, run_underlying E.ht, sizeOf, typeInfo, hi, Builtin.lenOf, Builtin.firstCells, k1, storeCells]

theorem own_inhabited {size n : Nat} {cs : List Value} (hn : n ≤ maxLen) (hl : cs.length = n * size) : Nonempty {x : Value × Array Value // OwnV x.1 x.2 size n cs} :=
  ⟨⟨(.slice (some ⟨0, 0, none⟩) n n, cs.toArray), OwnV.fresh (Nat.le_refl _) hn (by simpa using hl) (by simp [← hl]) hl⟩⟩

theorem f_append {t e size bytes n m j : Nat} {z : Value} {x y : Operand} {v u : Value} {cur : Array Value} {cs news : List Value} (E : Elem P t e size bytes z) (hH : H[j]? = some (v.ownBlock, .cells cur e (0, 0))) (hown : OwnV v cur size n cs)
    (hb : n + m ≤ 1099511627776) (hby : bytes ≤ 128) (hu : ∀ w, Cls w0 I H w → Src w u m size news) (ho : o.op = .call { callee := .builtin .append, args := #[x, y], argTypes := #[t, t] }) (hx : ev S x = some v) (hy : ev S y = some u) :
    FAct P o w0 I S H {x : Value × Array Value // OwnV x.1 x.2 size (n + m) (cs ++ news)} (fun x => x.1.1) (fun x => H.set j (x.1.1.ownBlock, .cells x.1.2 e (0, 0))) := fun ρ hρ w hc => by
  obtain ⟨hl, h1, hsrc⟩ := hu w hc
  obtain ⟨cc, hrun⟩ := run_builtin (P := P) (ρ := ρ) (vs := #[v, u]) ho (by simp [hρ _ _ hx, hρ _ _ hy]) w
  have hlt : j < H.length := by
    rcases Nat.lt_or_ge j H.length with h | h
    · exact h
    · rw [List.getElem?_eq_none h] at hH; cases hH
  have hmem := List.mem_of_getElem? hH
  rcases hsrc with ⟨c, rfl, rfl⟩ | ⟨a, c, rfl, hcells⟩
  · have hn : news = [] := List.eq_nil_of_length_eq_zero (by simpa using hl)
    subst hn
    refine .inl ⟨⟨(v, cur), by simpa using hown⟩, w, ?_, ?_⟩
    · rw [hrun]
      exact val_run (run_append_none E hown w)
    · have : H.set j (v.ownBlock, .cells cur e (0, 0)) = H := by
        have hg : H[j] = (v.ownBlock, .cells cur e (0, 0)) := by rw [List.getElem?_eq_getElem hlt] at hH; exact Option.some.inj hH
        rw [← hg]; exact List.set_getElem_self hlt
      simp only [this]; exact hc
  · obtain ⟨i, hi, hz, hs, hbb⟩ := E.hi
    have hr := hown.owns hc hmem
    obtain ⟨v', w', hr1, hr2, hr3, -, hr5⟩ := run_append_own_at (P := P) w 0 t o.type e i z size bytes E.ht hi hz hs hbb E.hz E.hs v n cs hr a m c news hl hcells h1 (by simp [maxLen]; omega)
      (by
        have : (n + m) * bytes ≤ 1099511627776 * 128 := Nat.mul_le_mul hb hby
        omega) (Nat.zero_le _)
    have hv' : ∃ cur', OwnV v' cur' size (n + m) (cs ++ news) ∧ ∀ b, v'.ownBlock = some b → w'.heap[b]? = some (.cells cur' e (0, 0)) := by
      refine Exists.elim (show ∃ cur', _ from ?_) fun cur' h => ⟨cur', h⟩
      rcases hr2.2 with ⟨rfl, hz0⟩ | ⟨g, cap, cur', rfl, -, k2, k3, k4, k5, k6⟩
      · exact ⟨#[], ⟨hr2.1, .inl ⟨rfl, hz0⟩⟩, fun b hb => by cases hb⟩
      · exact ⟨cur', ⟨hr2.1, .inr ⟨g, cap, rfl, k3, k4, k5, k6⟩⟩, fun b hb => by cases hb; exact k2⟩
    obtain ⟨cur', ho1, ho2⟩ := hv'
    exact .inl ⟨⟨(v', cur'), ho1⟩, w', by rw [hrun]; exact val_run hr1, hc.grown hH hr3 hr5 ho2⟩

/-- The cells of an own row as a source. -/
theorem OwnV.src {w : World} {v : Value} {cur : Array Value} {e size n : Nat} {cs : List Value} (h : OwnV v cur size n cs) (hc : Cls w0 I H w) (hm : (v.ownBlock, .cells cur e (0, 0)) ∈ H) (h1 : ∀ x ∈ cs, x.oneCell' = true) : Src w v n size cs := by
  refine ⟨h.1, h1, ?_⟩
  rcases h.2 with ⟨rfl, rfl⟩ | ⟨g, cap, rfl, k1, k2, k3, k4⟩
  · exact .inl ⟨0, rfl, rfl⟩
  · refine .inr ⟨_, _, rfl, fun k q hq => ?_⟩
    have hb := hc.own g _ hm
    rw [add_none, Nat.zero_add, cell_of hb]
    rw [← k4] at hq
    have hk : k < n * size := by
      rcases Nat.lt_or_ge k (n * size) with hh | hh
      · exact hh
      · rw [List.getElem?_eq_none (by simp; omega)] at hq; cases hq
    rw [List.getElem?_take_of_lt hk] at hq
    simpa using hq

/-- 'v' is a slice of n elements of 'size' cells each; its cells, as 'M' has them, are 'cs'. -/
def RowV (M : Nat → Option Obj) (v : Value) (size n : Nat) (cs : List Value) : Prop := cs.length = n * size ∧ ∃ a c, v = .slice a n c ∧ n ≤ c ∧
  (n = 0 ∨ ∃ b off arr t z, a = some ⟨b, off, none⟩ ∧ M b = some (.cells arr t z) ∧ ∀ i q, cs[i]? = some q → arr[off + i]? = some q)
theorem RowV.mono {M M' : Nat → Option Obj} {v : Value} {size n : Nat} {cs : List Value} (h : RowV M v size n cs) (hm : ∀ b o, M b = some o → M' b = some o) : RowV M' v size n cs := by
  obtain ⟨h0, a, c, h1, h2, h3⟩ := h
  refine ⟨h0, a, c, h1, h2, h3.imp id ?_⟩
  rintro ⟨b, off, arr, t, z, e1, e2, e3⟩
  exact ⟨b, off, arr, t, z, e1, hm b _ e2, e3⟩
theorem RowV.world {I : Nat → Option Obj} {v : Value} {size n : Nat} {cs : List Value} (h : RowV I v size n cs) {w : World} (hi : Imm I w) : RowV (heapOf w) v size n cs := h.mono fun b o e => hi b o e
theorem OwnV.row {v : Value} {cur : Array Value} {e size n : Nat} {cs : List Value} (h : OwnV v cur size n cs) {w : World} (hc : Cls w0 I H w) (hm : (v.ownBlock, .cells cur e (0, 0)) ∈ H) : RowV (heapOf w) v size n cs := by
  refine ⟨h.1, ?_⟩
  rcases h.2 with ⟨rfl, rfl⟩ | ⟨g, cap, rfl, k1, k2, k3, k4⟩
  · exact ⟨none, 0, rfl, Nat.le_refl _, .inl rfl⟩
  · refine ⟨_, cap, rfl, k1, .inr ⟨g, 0, cur, e, (0, 0), rfl, hc.own g _ hm, fun i q hq => ?_⟩⟩
    rw [Nat.zero_add]
    rw [← k4] at hq
    have hk : i < n * size := by
      rcases Nat.lt_or_ge i (n * size) with hh | hh
      · exact hh
      · rw [List.getElem?_eq_none (by simp; omega)] at hq; cases hq
    rw [List.getElem?_take_of_lt hk] at hq
    simpa using hq
theorem RowV.src {w : World} {v : Value} {size n : Nat} {cs : List Value} (h : RowV (heapOf w) v size n cs) (h1 : ∀ x ∈ cs, x.oneCell' = true) : Src w v n size cs := by
  obtain ⟨h0, a, c, rfl, h2, h3⟩ := h
  refine ⟨h0, h1, ?_⟩
  rcases h3 with h3 | ⟨b, off, arr, t, z, rfl, e2, e3⟩
  · subst h3
    have : cs = [] := List.eq_nil_of_length_eq_zero (by simpa using h0)
    subst this
    cases a with
    | none => exact .inl ⟨c, rfl, rfl⟩
    | some a => exact .inr ⟨a, c, rfl, fun k q hq => by simp at hq⟩
  · refine .inr ⟨_, c, rfl, fun k q hq => ?_⟩
    rw [add_none, cell_of (show w.heap[b]? = _ from e2)]
    exact e3 k q hq

/-- Numbers as cells. -/
def encl (k : IntKind) (xs : List Int) : List Value := xs.map (Value.int k)
theorem encl_one (k : IntKind) (xs : List Int) : ∀ x ∈ encl k xs, x.oneCell' = true := fun x hx => by
  obtain ⟨y, _, rfl⟩ := List.mem_map.1 hx; rfl
theorem encl_get (k : IntKind) {xs : List Int} {i : Nat} (h : i < xs.length) : (encl k xs)[i]? = some (.int k (xs.getD i 0)) := by simp [encl, h]

theorem p_slLen {T e : TypeId} {x : Operand} {v : Value} {n : Nat} (hu : ∀ w, (underlying T).run P w = .ok (.slice e) w) (hv : ∃ a c, v = .slice a n c) (ho : o.op = .call { callee := .builtin .len, args := #[x], argTypes := #[T] }) (hx : ev S x = some v) : FPure P o S (.int .i64 (n : Int)) := fun ρ hρ w => by
  obtain ⟨a, c, rfl⟩ := hv
  obtain ⟨cs, h⟩ := run_builtin (P := P) (ρ := ρ) (vs := #[.slice a n c]) ho (by simp [hρ _ _ hx]) w
  rw [h]
  refine val_run ?_
  unfold Builtin.len_
  exact (run_of_bind (hu w)).trans rfl
theorem OwnV.sl {v : Value} {cur : Array Value} {size n : Nat} {cs : List Value} (h : OwnV v cur size n cs) : ∃ a c, v = .slice a n c := h.slice
theorem RowV.sl {M : Nat → Option Obj} {v : Value} {size n : Nat} {cs : List Value} (h : RowV M v size n cs) : ∃ a c, v = .slice a n c := by
  obtain ⟨_, a, c, h1, _⟩ := h; exact ⟨a, c, h1⟩

/-- The address of a slice's cell. -/
def elp (v : Value) (j : Nat) : Value := match v with
  | .slice (some a) _ _ => .pointer (some (a.add j))
  | _ => .pointer none
theorem p_slIx {T e sz n : Nat} {x y : Operand} {v : Value} {k : IntKind} {i : Int} (hu : ∀ w, (underlying T).run P w = .ok (.slice e) w) (hs : ∀ w, (sizeOf e).run P w = .ok sz w) (hv : ∃ a c, v = .slice (some a) n c) (h0 : 0 ≤ i) (h1 : i < (n : Int))
    (ho : o.op = .indexAddr T x y) (hx : ev S x = some v) (hy : ev S y = some (.int k i)) : FPure P o S (elp v (i.toNat * sz)) := fun ρ hρ w => by
  obtain ⟨a, c, rfl⟩ := hv
  simp only [execOp, ho, hρ _ _ hx, hρ _ _ hy]
  refine val_run ?_
  unfold Instr.indexAt
  refine (run_of_bind (show (asIntOf (.int k i)).run P w = .ok (k, i) w from rfl)).trans ?_
  refine (run_of_bind (hu w)).trans ?_
  refine (run_of_bind (a := (some a, n, e)) (w' := w) rfl).trans ?_
  refine (run_of_bind (hu w)).trans ?_
  simp only [if_pos (And.intro h0 h1)]
  exact (run_of_bind (hs w)).trans rfl
theorem OwnV.some {v : Value} {cur : Array Value} {size n : Nat} {cs : List Value} (h : OwnV v cur size n cs) {i : Int} (h0 : 0 ≤ i) (h1 : i < (n : Int)) : ∃ a c, v = .slice (some a) n c := by
  rcases h.2 with ⟨_, rfl⟩ | ⟨g, cap, rfl, _⟩
  · omega
  · exact ⟨_, _, rfl⟩
theorem RowV.some {M : Nat → Option Obj} {v : Value} {size n : Nat} {cs : List Value} (h : RowV M v size n cs) {i : Int} (h0 : 0 ≤ i) (h1 : i < (n : Int)) : ∃ a c, v = .slice (some a) n c := by
  obtain ⟨_, a, c, rfl, _, h3⟩ := h
  rcases h3 with rfl | ⟨b, off, arr, t, z, rfl, _⟩
  · omega
  · exact ⟨_, _, rfl⟩

theorem load_row {w : World} {v q : Value} {n j : Nat} {cs : List Value} {t : TypeId} {x : Operand} {ρ : Operand → Value} {sz : Nat} (h : RowV (heapOf w) v sz n cs) (hq : cs[j]? = some q) (ha : ∀ w, (isAgg t).run P w = .ok false w) (ho : o.op = .load t x) (hx : ρ x = elp v j) : (execOp ρ o).run P w = .ok (.value q) w := by
  obtain ⟨h0, a, c, rfl, _, h3⟩ := h
  rcases h3 with rfl | ⟨b, off, arr, t', z, rfl, e2, e3⟩
  · have : cs = [] := List.eq_nil_of_length_eq_zero (by simpa using h0)
    subst this
    simp at hq
  · simp only [execOp, ho, hx]
    refine val_run ?_
    show ((isAgg t).bind _).run P w = _
    rw [run_of_bind (ha w)]
    refine run_load ?_
    rw [add_none, cell_of (show w.heap[b]? = _ from e2)]
    exact e3 j q hq
/-- .. out of an own row. -/
theorem f_loadEl {v q : Value} {cur : Array Value} {e n j sz i : Nat} {cs : List Value} {t : TypeId} {x : Operand} (hH : H[i]? = some (v.ownBlock, .cells cur e (0, 0))) (h : OwnV v cur sz n cs) (hq : cs[j]? = some q) (ha : ∀ w, (isAgg t).run P w = .ok false w) (ho : o.op = .load t x) (hx : ev S x = some (elp v j)) : FQuiet P o w0 I S H q :=
  fun ρ hρ w hc => .inl (load_row (h.row hc (List.mem_of_getElem? hH)) hq ha ho (hρ _ _ hx))
/-- A store into a cell of an own row. -/
theorem OwnV.set {v q : Value} {cur : Array Value} {n j sz : Nat} {cs : List Value} (h : OwnV v cur sz n cs) (hj : j < n * sz) : OwnV v (cur.setIfInBounds j q) sz n (cs.set j q) := by
  refine ⟨by rw [List.length_set]; exact h.1, ?_⟩
  rcases h.2 with ⟨rfl, rfl⟩ | ⟨g, cap, rfl, k1, k2, k3, k4⟩
  · simp at hj
  · refine .inr ⟨g, cap, rfl, k1, k2, by simpa using k3, ?_⟩
    rw [← k4, Array.toList_setIfInBounds, List.take_set]
/-! #### slices of numbers -/
def IntOwn (k : IntKind) (v : Value) (cur : Array Value) (xs : List Int) : Prop := OwnV v cur 1 xs.length (encl k xs)
def IntRow (M : Nat → Option Obj) (k : IntKind) (v : Value) (xs : List Int) : Prop := RowV M v 1 xs.length (encl k xs)
theorem IntOwn.row {k : IntKind} {v : Value} {cur : Array Value} {e i : Nat} {xs : List Int} (h : IntOwn k v cur xs) {w : World} (hc : Cls w0 I H w) (hH : H[i]? = some (v.ownBlock, .cells cur e (0, 0))) : IntRow (heapOf w) k v xs := OwnV.row h hc (List.mem_of_getElem? hH)
theorem IntRow.world {k : IntKind} {v : Value} {xs : List Int} (h : IntRow I k v xs) {w : World} (hc : Cls w0 I H w) : IntRow (heapOf w) k v xs := RowV.world h hc.imm
theorem IntOwn.src {k : IntKind} {v : Value} {cur : Array Value} {e i : Nat} {xs : List Int} (h : IntOwn k v cur xs) {w : World} (hc : Cls w0 I H w) (hH : H[i]? = some (v.ownBlock, .cells cur e (0, 0))) : Src w v xs.length 1 (encl k xs) := OwnV.src h hc (List.mem_of_getElem? hH) (encl_one k xs)
theorem IntRow.src {k : IntKind} {v : Value} {xs : List Int} (h : IntRow I k v xs) {w : World} (hc : Cls w0 I H w) : Src w v xs.length 1 (encl k xs) := RowV.src (RowV.world h hc.imm) (encl_one k xs)
theorem IntOwn.nil (k : IntKind) : IntOwn k (.slice none 0 0) #[] [] := OwnV.nil 1
theorem IntOwn.set {k : IntKind} {v : Value} {cur : Array Value} {xs : List Int} (h : IntOwn k v cur xs) {j : Nat} (hj : j < xs.length) (q : Int) : IntOwn k v (cur.setIfInBounds j (.int k q)) (xs.set j q) := by
  have := OwnV.set (q := .int k q) h (j := j) (by omega)
  unfold IntOwn
  rw [List.length_set]
  simpa [encl, List.map_set] using this
theorem own_any (k : IntKind) {xs : List Int} (h : xs.length ≤ maxLen) : Nonempty {x : Value × Array Value // IntOwn k x.1 x.2 xs} := own_inhabited h (by simp [encl])

variable {R : Ending → World → Prop} {N : Nat} {f : FuncId} {K : List Item} {ops : Array Oper} {lab : Lab} {ids : Nat → Option Nat} {l : List Nat} {i d : Nat}

/-- An operation that gives an own slice of numbers. -/
theorem DL.own {k : IntKind} {zs : List Int} {H' : Value → Array Value → Heap} (hz : zs.length ≤ 1099511627776) (hi : ops[i]? = some o) (hw : Wn ops S o true) (hd : o.dst = some d) (hN : Nat.blt d N = true) (hk : (lab i).1 = .act)
    {HH : {x : Value × Array Value // IntOwn k x.1 x.2 zs} → Heap} (hp : FAct P o w0 I S H {x : Value × Array Value // IntOwn k x.1 x.2 zs} (fun x => x.1.1) HH) (hH : ∀ x, HH x = H' x.1.1 x.1.2)
    (h : ∀ v cur, IntOwn k v cur zs → DK P N w0 I Kc ops lab ids l ((d, v) :: S) (H' v cur)) : DK P N w0 I Kc ops lab ids (i :: l) S H :=
  DL.act (own_any k (by simp [maxLen]; omega)) hi hw hd hN hk hp fun x => by rw [hH]; exact h x.1.1 x.1.2 x.2

theorem Cls.more {w w' : World} (hc : Cls w0 I H w) (hb : Below w.heap.size w w') {r : Option Nat} {ob : Obj} (hr : ∀ b, r = some b → w.heap.size ≤ b ∧ w'.heap[b]? = some ob) : Cls w0 I ((r, ob) :: H) w' := by
  have h1 := hc.below hb
  cases r with
  | none => exact h1.nothing ob
  | some b =>
    obtain ⟨h2, h3⟩ := hr b rfl
    refine ⟨h1.os, h1.tape, h1.output, h1.size, h1.imm, fun c u hm => ?_, fun c u hm => ?_, ?_⟩
    · cases hm with
      | head => exact h3
      | tail _ hm => exact h1.own c u hm
    · cases hm with
      | head =>
        cases hI : I b with
        | none => rfl
        | some u => have := lt_of_get (hc.imm b u hI); omega
      | tail _ hm => exact h1.disj c u hm
    · simp only [List.filterMap_cons]
      refine List.nodup_cons.2 ⟨fun hm => ?_, h1.nodup⟩
      obtain ⟨u, hu⟩ := mem_ids.1 hm
      have := lt_of_get (hc.own b u hu)
      omega
/-- A call whose contract asks something of the world. -/
theorem f_callR {cl : Call} {g : FuncId} {args : Array Value} {v : Value} (ho : o.op = .call cl) (hcal : cl.callee = .value (.func g)) (hargs : ∀ ρ, Val S ρ → cl.args.map ρ = args)
    (hbody : ∀ w, (callFunc g args).run P w = .ok (.enter g args) w) (hc : ∀ w, Cls w0 I H w → Calls P g args w fun e w' => e = .returned v ∧ Below w.heap.size w w') : FQuiet P o w0 I S H v := fun ρ hρ w hcl => .inr ⟨g, args, by
  simp only [execOp, ho, resolve, hcal, hargs ρ hρ]
  have h1 : ρ (.func g) = .func (.func g) #[] #[] := hρ _ _ rfl
  rw [h1]
  show (callFunc g (#[] ++ args ++ #[])).run P w = _
  simpa using hbody w, hc w hcl⟩
/-- A new slice. -/
theorem DL.newSl {k : IntKind} {zs : List Int} {e n : Nat} (hz : zs.length = n) (hm : n ≤ maxLen) (hi : ops[i]? = some o) (hw : Wn ops S o true) (hd : o.dst = some d) (hN : Nat.blt d N = true) (hk : (lab i).1 = .alloc)
    (hp : FNew P o S (.cells (enc k zs) e) (fun b => .slice (some ⟨b, 0, none⟩) n n)) (h : ∀ v cur, IntOwn k v cur zs → DK P N w0 I Kc ops lab ids l ((d, v) :: S) ((v.ownBlock, .cells cur e (0, 0)) :: H)) : DK P N w0 I Kc ops lab ids (i :: l) S H :=
  DL.new hi hw hd hN hk hp fun b hb => h (.slice (some ⟨b, 0, none⟩) n n) (enc k zs) (by
    subst hz
    exact OwnV.fresh (Nat.le_refl _) hm (by simp [enc_size]) (by simp only [enc, encl, Nat.mul_one]; rw [List.take_of_length_le (by simp)]) (by simp [encl]))
theorem f_buildSl {t e bytes n : Nat} {k : IntKind} {zs : List Int} {parts : Array (Nat × Operand)} {vs : List (Nat × Value)} (E : Elem P t e 1 bytes (.int k 0)) (hn : Nat.ble n 16777216 = true) (h0 : Nat.blt 0 n = true)
    (hf : Instr.fill (fun i => some (i * 1, 1)) ((Array.range (n * 1)).map ((Value.int k 0).cells[· % (Value.int k 0).cells.size]!)) vs = some (enc k zs)) (ho : o.op = .buildSlice t n parts) (hp : ∀ ρ, Val S ρ → (parts.map fun p => (p.1, ρ p.2)).toList = vs) :
    FNew P o S (.cells (enc k zs) e) (fun b => .slice (some ⟨b, 0, none⟩) n n) := fun ρ hρ w => by
  obtain ⟨i, hi, hz, hs, hbb⟩ := E.hi
  have h1 := Nat.le_of_ble_eq_true hn
  have h2 : 0 < n := by simpa [Nat.blt_eq] using h0
  simp only [execOp, ho]
  refine val_run ?_
  refine run_buildSlice w t e n _ _ i _ E.ht hi hz (by rw [hs]; omega) (by rw [hs]; omega) ?_
  rw [hs, ← hf, ← hp ρ hρ]
theorem p_slIx1 {T e n : Nat} {x y : Operand} {v : Value} {k : IntKind} {i : Int} (hu : ∀ w, (underlying T).run P w = .ok (.slice e) w) (hs : ∀ w, (sizeOf e).run P w = .ok 1 w) (hv : ∃ a c, v = .slice (some a) n c) (h0 : 0 ≤ i) (h1 : i < (n : Int))
    (ho : o.op = .indexAddr T x y) (hx : ev S x = some v) (hy : ev S y = some (.int k i)) : FPure P o S (elp v i.toNat) := by
  have := p_slIx (S := S) hu hs hv h0 h1 ho hx hy
  rwa [Nat.mul_one] at this
theorem lt_len {i : Int} {n : Nat} (h0 : 0 ≤ i) (h1 : i < (n : Int)) : i.toNat < n := by omega
/-- A nil slice is an own one. -/
theorem TT.nilOwn {e : TypeId} (h : TT P f R N w0 I K S ((none, .cells #[] e (0, 0)) :: H)) : TT P f R N w0 I K S H := fun a w ha hc => h a w ha (hc.nothing _)
theorem args_val2 {parts : Array (Nat × Operand)} {vs : List (Nat × Value)} (h : evps S parts.toList = some vs) : ∀ ρ, Val S ρ → (parts.map fun p => (p.1, ρ p.2)).toList = vs := fun ρ hρ => by rw [Array.toList_map]; exact evps_val hρ _ _ h
end
end Go.HW
