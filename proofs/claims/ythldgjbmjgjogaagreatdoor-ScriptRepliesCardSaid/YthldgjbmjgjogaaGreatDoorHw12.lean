import Derived.Test.YthldgjbmjgjogaaGreatDoorHw7
import Derived.Maps.AppendAt
import Derived.Great.BuildSlice
import Derived.Laws.OwnMore
section
namespace Go.HW
open Go Go.RowKit
set_option linter.unusedVariables false
set_option linter.unusedSimpArgs false

/-! ### texts -/
/-- Bytes as a text. -/
def str (s : List UInt8) : Value := .string ⟨s.toArray⟩
/-- A text's byte as a number. -/
def chr (s : List UInt8) (i : Nat) : Int := ((s.getD i 0).toNat : Int)

section
variable {P : Program} {o : Oper} {S : Slots} {w0 : World} {I : Nat → Option Obj} {H : Heap}
theorem p_strIndex {T : TypeId} {x y : Operand} {s : List UInt8} {k : IntKind} {i : Int} (hu : ∀ w, (underlying T).run P w = .ok .string w) (h0 : 0 ≤ i) (h1 : i < (s.length : Int)) (ho : o.op = .index T x y) (hx : ev S x = some (str s)) (hy : ev S y = some (.int k i)) :
    FPure P o S (.int .u8 (chr s i.toNat)) := fun ρ hρ w => by
  simp only [execOp, ho, hρ _ _ hx, hρ _ _ hy]
  refine val_run ?_
  unfold Instr.index
  refine (run_of_bind (show (asIntOf (.int k i)).run P w = .ok (k, i) w from rfl)).trans ?_
  refine (run_of_bind (hu w)).trans ?_
  have hlt : i.toNat < s.length := by omega
  have hg : (⟨s.toArray⟩ : ByteArray)[i.toNat]? = some (s.getD i.toNat 0) := by
    have h2 : i.toNat < (⟨s.toArray⟩ : ByteArray).size := by show i.toNat < s.toArray.size; simpa using hlt
    rw [getElem?_pos (⟨s.toArray⟩ : ByteArray) i.toNat h2]
    congr 1
    show s.toArray[i.toNat] = _
    simp [hlt]
  simp only [str, if_pos h0, hg]
  rfl
theorem run_builtin {b : Builtin} {args : Array Operand} {ts : Array TypeId} {vs : Array Value} {ρ : Operand → Value} (ho : o.op = .call { callee := .builtin b, args := args, argTypes := ts }) (hv : args.map ρ = vs) (w : World) :
    ∃ cs, (execOp ρ o).run P w = (builtin b ts o.type cs vs).run P w := by
  refine ⟨args.map fun | .const _ => true | _ => false, ?_⟩
  simp only [execOp, ho]
  refine (run_of_bind (a := { target := .builtin b ts o.type (args.map fun | .const _ => true | _ => false), args := args.map ρ }) (w' := w) rfl).trans ?_
  rw [hv]
  rfl
theorem p_strLen {T : TypeId} {x : Operand} {s : List UInt8} (hu : ∀ w, (underlying T).run P w = .ok .string w) (ho : o.op = .call { callee := .builtin .len, args := #[x], argTypes := #[T] }) (hx : ev S x = some (str s)) : FPure P o S (.int .i64 (s.length : Int)) := fun ρ hρ w => by
  obtain ⟨cs, h⟩ := run_builtin (P := P) (ρ := ρ) (vs := #[str s]) ho (by simp [hρ _ _ hx]) w
  rw [h]
  refine val_run ?_
  unfold Builtin.len_
  refine (run_of_bind (hu w)).trans ?_
  show Result.ok (goInt (s.toArray.size)) w = _
  simp [goInt]
end
end Go.HW
end

section
namespace Go.HW
open Go Go.RowKit
set_option linter.unusedVariables false
set_option linter.unusedSimpArgs false

/-! ### slices -/
/-- 'v' is a slice of n elements of 'size' cells each, at the beginning of a row whose cells are 'cur'; what counts are the cells 'cs'. -/
def OwnV (v : Value) (cur : Array Value) (size n : Nat) (cs : List Value) : Prop :=
  cs.length = n * size ∧ ((v = .slice none 0 0 ∧ n = 0) ∨ ∃ g cap, v = .slice (some ⟨g, 0, none⟩) n cap ∧ n ≤ cap ∧ cap ≤ maxLen ∧ cur.size = cap * size ∧ cur.toList.take (n * size) = cs)

theorem OwnV.nil (size : Nat) : OwnV (.slice none 0 0) #[] size 0 [] := ⟨by simp, .inl ⟨rfl, rfl⟩⟩
theorem OwnV.fresh {size n cap g : Nat} {cur : Array Value} {cs : List Value} (h1 : n ≤ cap) (h2 : cap ≤ maxLen) (h3 : cur.size = cap * size) (h4 : cur.toList.take (n * size) = cs) (h5 : cs.length = n * size) : OwnV (.slice (some ⟨g, 0, none⟩) n cap) cur size n cs :=
  ⟨h5, .inr ⟨g, cap, rfl, h1, h2, h3, h4⟩⟩
theorem OwnV.slice {v : Value} {cur : Array Value} {size n : Nat} {cs : List Value} (h : OwnV v cur size n cs) : ∃ a c, v = .slice a n c := by
  rcases h.2 with ⟨rfl, rfl⟩ | ⟨g, cap, rfl, _⟩
  · exact ⟨none, 0, rfl⟩
  · exact ⟨_, _, rfl⟩
theorem OwnV.owns {w0 w : World} {I : Nat → Option Obj} {H : Heap} {v : Value} {cur : Array Value} {size n e : Nat} {cs : List Value} (h : OwnV v cur size n cs) (hc : Cls w0 I H w) (hm : (v.ownBlock, .cells cur e (0, 0)) ∈ H) : w.ownsRow 0 e size v n cs := by
  refine ⟨h.1, ?_⟩
  rcases h.2 with h1 | ⟨g, cap, rfl, k1, k2, k3, k4⟩
  · exact .inl h1
  · exact .inr ⟨g, cap, cur, rfl, Nat.zero_le _, hc.own g _ hm, k1, k2, k3, k4⟩

theorem nodup_of : ∀ {l : Heap}, (∀ (i k b : Nat) (u u' : Obj), l[i]? = some (some b, u) → l[k]? = some (some b, u') → i = k) → (l.filterMap Prod.fst).Nodup
  | [], _ => List.nodup_nil
  | (x, u) :: l, h => by
    have hl : (l.filterMap Prod.fst).Nodup := nodup_of fun i k b u u' h1 h2 => by
      have := h (i + 1) (k + 1) b u u' (by simpa using h1) (by simpa using h2)
      omega
    cases x with
    | none => simpa using hl
    | some b =>
      simp only [List.filterMap_cons]
      refine List.nodup_cons.2 ⟨fun hm => ?_, hl⟩
      obtain ⟨u', hu'⟩ := mem_ids.1 hm
      obtain ⟨k, hk⟩ := List.mem_iff_getElem?.1 hu'
      have := h 0 (k + 1) b u u' rfl (by simpa using hk)
      omega
theorem Cls.grown {w0 w w' : World} {I : Nat → Option Obj} {H : Heap} {j : Nat} {r r' : Option Nat} {o o' : Obj} (hc : Cls w0 I H w) (hj : H[j]? = some (r, o)) (hg : w.grownBy w' r) (hr : r' = r ∨ r' = some w.heap.size) (ho : ∀ b, r' = some b → w'.heap[b]? = some o') :
    Cls w0 I (H.set j (r', o')) w' := by
  have hlt : j < H.length := by
    rcases Nat.lt_or_ge j H.length with h | h
    · exact h
    · rw [List.getElem?_eq_none h] at hj; cases hj
  have hmem : (r, o) ∈ H := List.mem_of_getElem? hj
  have hget : H[j] = (r, o) := by rw [List.getElem?_eq_getElem hlt] at hj; exact Option.some.inj hj
  have hsplit : ∀ (k : Nat) c u, (H.set j (r', o'))[k]? = some (some c, u) → (k = j ∧ r' = some c ∧ u = o') ∨ (k ≠ j ∧ H[k]? = some (some c, u) ∧ some c ≠ r) := fun k c u hk => by
    rw [List.getElem?_set] at hk
    by_cases hkj : j = k
    · subst hkj
      simp [hlt] at hk
      exact .inl ⟨rfl, hk.1, hk.2.symm⟩
    · simp [hkj] at hk
      refine .inr ⟨fun e => hkj e.symm, hk, fun e => ?_⟩
      rw [← e] at hj
      exact hkj (ids_unique hc.nodup hj hk)
  have hold : ∀ b u, w.heap[b]? = some u → some b ≠ r → w'.heap[b]? = some u := fun b u hb hne => by rw [hg.block b (lt_of_get hb) hne]; exact hb
  refine ⟨hg.os.trans hc.os, hg.tape.trans hc.tape, hg.output.trans hc.output, Nat.le_trans hc.size hg.size, fun b u hI => ?_, fun b u hm => ?_, fun b u hm => ?_, ?_⟩
  · refine hold b u (hc.imm b u hI) fun e => ?_
    have := hc.disj b o (by rw [e]; exact hmem)
    rw [this] at hI; cases hI
  · obtain ⟨k, hk⟩ := List.mem_iff_getElem?.1 hm
    rcases hsplit k b u hk with ⟨_, h1, rfl⟩ | ⟨_, h1, h2⟩
    · exact ho b h1
    · exact hold b u (hc.own b u (List.mem_of_getElem? h1)) h2
  · obtain ⟨k, hk⟩ := List.mem_iff_getElem?.1 hm
    rcases hsplit k b u hk with ⟨_, h1, rfl⟩ | ⟨_, h1, _⟩
    · rcases hr with h2 | h2
      · exact hc.disj b o (by rw [← h1, h2]; exact hmem)
      · rw [h2] at h1
        cases hI : I b with
        | none => rfl
        | some u =>
          have := lt_of_get (hc.imm b u hI)
          cases h1; omega
    · exact hc.disj b u (List.mem_of_getElem? h1)
  · refine nodup_of fun i k b u u' h1 h2 => ?_
    rcases hsplit i b u h1 with ⟨e1, g1, _⟩ | ⟨e1, g1, n1⟩ <;> rcases hsplit k b u' h2 with ⟨e2, g2, _⟩ | ⟨e2, g2, n2⟩
    · omega
    · exfalso
      rcases hr with h3 | h3
      · exact n2 (by rw [← g1, h3])
      · rw [h3] at g1
        have := lt_of_get (hc.own b u' (List.mem_of_getElem? g2))
        cases g1; omega
    · exfalso
      rcases hr with h3 | h3
      · exact n1 (by rw [← g2, h3])
      · rw [h3] at g2
        have := lt_of_get (hc.own b u (List.mem_of_getElem? g1))
        cases g2; omega
    · exact ids_unique hc.nodup g1 g2

section
variable {Kc : Act → World → Prop} {P : Program} {o : Oper} {S : Slots} {w0 : World} {I : Nat → Option Obj} {H : Heap}

/-- What is known of a type that a slice holds. -/
structure Elem (P : Program) (t e size bytes : Nat) (z : Value) : Prop where
  ht : P.underlying t = some (.slice e)
  hi : ∃ i, P.info? e = some i ∧ i.zero = some z ∧ i.size = size ∧ i.bytes = bytes
  hz : z.cells.size = size
  hs : 0 < size

theorem Elem.of {t e size bytes : Nat} {z : Value} (ht : P.underlying t = some (.slice e)) (hi : (P.info? e).map (fun i => (i.zero, i.size, i.bytes)) = some (some z, size, bytes)) (hz : z.cells.size = size) (hs : 0 < size) : Elem P t e size bytes z := by
  cases hie : P.info? e with
  | none => rw [hie] at hi; cases hi
  | some i =>
    rw [hie] at hi
    simp only [Option.map_some, Option.some.injEq, Prod.mk.injEq] at hi
    exact ⟨ht, ⟨i, hie, hi.1, hi.2.1, hi.2.2⟩, hz, hs⟩
/-- 'u' is a slice of m elements whose cells are 'news'. -/
def Src (w : World) (u : Value) (m size : Nat) (news : List Value) : Prop := news.length = m * size ∧ (∀ x ∈ news, x.oneCell' = true) ∧ ((∃ c, u = .slice none 0 c ∧ m = 0) ∨ ∃ a c, u = .slice (some a) m c ∧ ∀ k q, news[k]? = some q → w.cell? (a.add k) = some q)

theorem run_append_none {t ty e size bytes : Nat} {z : Value} (E : Elem P t e size bytes z) {v : Value} {cur : Array Value} {n c : Nat} {cs : List Value} (h : OwnV v cur size n cs) (w : World) :
    (Builtin.append_ #[t, t] ty #[v, .slice none 0 c]).run P w = .ok v w := by
  obtain ⟨i, hi, -⟩ := E.hi
  rcases h.2 with ⟨rfl, rfl⟩ | ⟨g, cap, rfl, k1, _⟩
  · simp [Builtin.append_, run_underlying E.ht, sizeOf, typeInfo, hi, Builtin.lenOf, Builtin.firstCells]
  · simp [Builtin.append_, run_underlying E.ht, sizeOf, typeInfo, hi, Builtin.lenOf, Builtin.firstCells, k1, storeCells]

theorem own_inhabited {size n : Nat} {cs : List Value} (hn : n ≤ maxLen) (hl : cs.length = n * size) : Nonempty {x : Value × Array Value // OwnV x.1 x.2 size n cs} :=
  ⟨⟨(.slice (some ⟨0, 0, none⟩) n n, cs.toArray), OwnV.fresh (Nat.le_refl _) hn (by simpa using hl) (by simp [← hl]) hl⟩⟩

theorem f_append {t e size bytes n m j : Nat} {z : Value} {x y : Operand} {v u : Value} {cur : Array Value} {cs news : List Value} (E : Elem P t e size bytes z) (hH : H[j]? = some (v.ownBlock, .cells cur e (0, 0))) (hown : OwnV v cur size n cs)
    (hb : n + m ≤ 1099511627776) (hby : bytes ≤ 128) (hu : ∀ w, Cls w0 I H w → Src w u m size news) (ho : o.op = .call { callee := .builtin .append, args := #[x, y], argTypes := #[t, t] }) (hx : ev S x = some v) (hy : ev S y = some u) :
    FAct P o w0 I S H {x : Value × Array Value // OwnV x.1 x.2 size (n + m) (cs ++ news)} (fun x => x.1.1) (fun x => H.set j (x.1.1.ownBlock, .cells x.1.2 e (0, 0))) := fun ρ hρ w hc => by
  obtain ⟨hl, h1, hsrc⟩ := hu w hc
  obtain ⟨cc, hrun⟩ := run_builtin (P := P) (ρ := ρ) (vs := #[v, u]) ho (by simp [hρ _ _ hx, hρ _ _ hy]) w
  have hlt : j < H.length := by
    rcases Nat.lt_or_ge j H.length with h | h
    · exact h
    · rw [List.getElem?_eq_none h] at hH; cases hH
  have hmem := List.mem_of_getElem? hH
  rcases hsrc with ⟨c, rfl, rfl⟩ | ⟨a, c, rfl, hcells⟩
  · have hn : news = [] := List.eq_nil_of_length_eq_zero (by simpa using hl)
    subst hn
    refine .inl ⟨⟨(v, cur), by simpa using hown⟩, w, ?_, ?_⟩
    · rw [hrun]
      exact val_run (run_append_none E hown w)
    · have : H.set j (v.ownBlock, .cells cur e (0, 0)) = H := by
        have hg : H[j] = (v.ownBlock, .cells cur e (0, 0)) := by rw [List.getElem?_eq_getElem hlt] at hH; exact Option.some.inj hH
        rw [← hg]; exact List.set_getElem_self hlt
      simp only [this]; exact hc
  · obtain ⟨i, hi, hz, hs, hbb⟩ := E.hi
    have hr := hown.owns hc hmem
    obtain ⟨v', w', hr1, hr2, hr3, -, hr5⟩ := run_append_own_at (P := P) w 0 t o.type e i z size bytes E.ht hi hz hs hbb E.hz E.hs v n cs hr a m c news hl hcells h1 (by simp [maxLen]; omega)
      (by
        have : (n + m) * bytes ≤ 1099511627776 * 128 := Nat.mul_le_mul hb hby
        omega) (Nat.zero_le _)
    have hv' : ∃ cur', OwnV v' cur' size (n + m) (cs ++ news) ∧ ∀ b, v'.ownBlock = some b → w'.heap[b]? = some (.cells cur' e (0, 0)) := by
      refine Exists.elim (show ∃ cur', _ from ?_) fun cur' h => ⟨cur', h⟩
      rcases hr2.2 with ⟨rfl, hz0⟩ | ⟨g, cap, cur', rfl, -, k2, k3, k4, k5, k6⟩
      · exact ⟨#[], ⟨hr2.1, .inl ⟨rfl, hz0⟩⟩, fun b hb => by cases hb⟩
      · exact ⟨cur', ⟨hr2.1, .inr ⟨g, cap, rfl, k3, k4, k5, k6⟩⟩, fun b hb => by cases hb; exact k2⟩
    obtain ⟨cur', ho1, ho2⟩ := hv'
    exact .inl ⟨⟨(v', cur'), ho1⟩, w', by rw [hrun]; exact val_run hr1, hc.grown hH hr3 hr5 ho2⟩

/-- The cells of an own row as a source. -/
theorem OwnV.src {w : World} {v : Value} {cur : Array Value} {e size n : Nat} {cs : List Value} (h : OwnV v cur size n cs) (hc : Cls w0 I H w) (hm : (v.ownBlock, .cells cur e (0, 0)) ∈ H) (h1 : ∀ x ∈ cs, x.oneCell' = true) : Src w v n size cs := by
  refine ⟨h.1, h1, ?_⟩
  rcases h.2 with ⟨rfl, rfl⟩ | ⟨g, cap, rfl, k1, k2, k3, k4⟩
  · exact .inl ⟨0, rfl, rfl⟩
  · refine .inr ⟨_, _, rfl, fun k q hq => ?_⟩
    have hb := hc.own g _ hm
    rw [add_none, Nat.zero_add, cell_of hb]
    rw [← k4] at hq
    have hk : k < n * size := by
      rcases Nat.lt_or_ge k (n * size) with hh | hh
      · exact hh
      · rw [List.getElem?_eq_none (by simp; omega)] at hq; cases hq
    rw [List.getElem?_take_of_lt hk] at hq
    simpa using hq

/-- 'v' is a slice of n elements of 'size' cells each; its cells, as 'M' has them, are 'cs'. -/
def RowV (M : Nat → Option Obj) (v : Value) (size n : Nat) (cs : List Value) : Prop := cs.length = n * size ∧ ∃ a c, v = .slice a n c ∧ n ≤ c ∧
  (n = 0 ∨ ∃ b off arr t z, a = some ⟨b, off, none⟩ ∧ M b = some (.cells arr t z) ∧ ∀ i q, cs[i]? = some q → arr[off + i]? = some q)
theorem RowV.mono {M M' : Nat → Option Obj} {v : Value} {size n : Nat} {cs : List Value} (h : RowV M v size n cs) (hm : ∀ b o, M b = some o → M' b = some o) : RowV M' v size n cs := by
  obtain ⟨h0, a, c, h1, h2, h3⟩ := h
  refine ⟨h0, a, c, h1, h2, h3.imp id ?_⟩
  rintro ⟨b, off, arr, t, z, e1, e2, e3⟩
  exact ⟨b, off, arr, t, z, e1, hm b _ e2, e3⟩
theorem RowV.world {I : Nat → Option Obj} {v : Value} {size n : Nat} {cs : List Value} (h : RowV I v size n cs) {w : World} (hi : Imm I w) : RowV (heapOf w) v size n cs := h.mono fun b o e => hi b o e
theorem OwnV.row {v : Value} {cur : Array Value} {e size n : Nat} {cs : List Value} (h : OwnV v cur size n cs) {w : World} (hc : Cls w0 I H w) (hm : (v.ownBlock, .cells cur e (0, 0)) ∈ H) : RowV (heapOf w) v size n cs := by
  refine ⟨h.1, ?_⟩
  rcases h.2 with ⟨rfl, rfl⟩ | ⟨g, cap, rfl, k1, k2, k3, k4⟩
  · exact ⟨none, 0, rfl, Nat.le_refl _, .inl rfl⟩
  · refine ⟨_, cap, rfl, k1, .inr ⟨g, 0, cur, e, (0, 0), rfl, hc.own g _ hm, fun i q hq => ?_⟩⟩
    rw [Nat.zero_add]
    rw [← k4] at hq
    have hk : i < n * size := by
      rcases Nat.lt_or_ge i (n * size) with hh | hh
      · exact hh
      · rw [List.getElem?_eq_none (by simp; omega)] at hq; cases hq
    rw [List.getElem?_take_of_lt hk] at hq
    simpa using hq
theorem RowV.src {w : World} {v : Value} {size n : Nat} {cs : List Value} (h : RowV (heapOf w) v size n cs) (h1 : ∀ x ∈ cs, x.oneCell' = true) : Src w v n size cs := by
  obtain ⟨h0, a, c, rfl, h2, h3⟩ := h
  refine ⟨h0, h1, ?_⟩
  rcases h3 with h3 | ⟨b, off, arr, t, z, rfl, e2, e3⟩
  · subst h3
    have : cs = [] := List.eq_nil_of_length_eq_zero (by simpa using h0)
    subst this
    cases a with
    | none => exact .inl ⟨c, rfl, rfl⟩
    | some a => exact .inr ⟨a, c, rfl, fun k q hq => by simp at hq⟩
  · refine .inr ⟨_, c, rfl, fun k q hq => ?_⟩
    rw [add_none, cell_of (show w.heap[b]? = _ from e2)]
    exact e3 k q hq

/-- Numbers as cells. -/
def encl (k : IntKind) (xs : List Int) : List Value := xs.map (Value.int k)
theorem encl_one (k : IntKind) (xs : List Int) : ∀ x ∈ encl k xs, x.oneCell' = true := fun x hx => by
  obtain ⟨y, _, rfl⟩ := List.mem_map.1 hx; rfl
theorem encl_len (k : IntKind) (xs : List Int) : (encl k xs).length = xs.length := by simp [encl]
theorem encl_get (k : IntKind) {xs : List Int} {i : Nat} (h : i < xs.length) : (encl k xs)[i]? = some (.int k (xs.getD i 0)) := by simp [encl, h]

theorem p_slLen {T e : TypeId} {x : Operand} {v : Value} {n : Nat} (hu : ∀ w, (underlying T).run P w = .ok (.slice e) w) (hv : ∃ a c, v = .slice a n c) (ho : o.op = .call { callee := .builtin .len, args := #[x], argTypes := #[T] }) (hx : ev S x = some v) : FPure P o S (.int .i64 (n : Int)) := fun ρ hρ w => by
  obtain ⟨a, c, rfl⟩ := hv
  obtain ⟨cs, h⟩ := run_builtin (P := P) (ρ := ρ) (vs := #[.slice a n c]) ho (by simp [hρ _ _ hx]) w
  rw [h]
  refine val_run ?_
  unfold Builtin.len_
  exact (run_of_bind (hu w)).trans rfl
theorem OwnV.sl {v : Value} {cur : Array Value} {size n : Nat} {cs : List Value} (h : OwnV v cur size n cs) : ∃ a c, v = .slice a n c := h.slice
theorem RowV.sl {M : Nat → Option Obj} {v : Value} {size n : Nat} {cs : List Value} (h : RowV M v size n cs) : ∃ a c, v = .slice a n c := by
  obtain ⟨_, a, c, h1, _⟩ := h; exact ⟨a, c, h1⟩

/-- The address of a slice's cell. -/
def elp (v : Value) (j : Nat) : Value := match v with
  | .slice (some a) _ _ => .pointer (some (a.add j))
  | _ => .pointer none
theorem p_slIx {T e sz n : Nat} {x y : Operand} {v : Value} {k : IntKind} {i : Int} (hu : ∀ w, (underlying T).run P w = .ok (.slice e) w) (hs : ∀ w, (sizeOf e).run P w = .ok sz w) (hv : ∃ a c, v = .slice (some a) n c) (h0 : 0 ≤ i) (h1 : i < (n : Int))
    (ho : o.op = .indexAddr T x y) (hx : ev S x = some v) (hy : ev S y = some (.int k i)) : FPure P o S (elp v (i.toNat * sz)) := fun ρ hρ w => by
  obtain ⟨a, c, rfl⟩ := hv
  simp only [execOp, ho, hρ _ _ hx, hρ _ _ hy]
  refine val_run ?_
  unfold Instr.indexAt
  refine (run_of_bind (show (asIntOf (.int k i)).run P w = .ok (k, i) w from rfl)).trans ?_
  refine (run_of_bind (hu w)).trans ?_
  refine (run_of_bind (a := (some a, n, e)) (w' := w) rfl).trans ?_
  refine (run_of_bind (hu w)).trans ?_
  simp only [if_pos (And.intro h0 h1)]
  exact (run_of_bind (hs w)).trans rfl
theorem OwnV.some {v : Value} {cur : Array Value} {size n : Nat} {cs : List Value} (h : OwnV v cur size n cs) {i : Int} (h0 : 0 ≤ i) (h1 : i < (n : Int)) : ∃ a c, v = .slice (some a) n c := by
  rcases h.2 with ⟨_, rfl⟩ | ⟨g, cap, rfl, _⟩
  · omega
  · exact ⟨_, _, rfl⟩
theorem RowV.some {M : Nat → Option Obj} {v : Value} {size n : Nat} {cs : List Value} (h : RowV M v size n cs) {i : Int} (h0 : 0 ≤ i) (h1 : i < (n : Int)) : ∃ a c, v = .slice (some a) n c := by
  obtain ⟨_, a, c, rfl, _, h3⟩ := h
  rcases h3 with rfl | ⟨b, off, arr, t, z, rfl, _⟩
  · omega
  · exact ⟨_, _, rfl⟩

theorem load_row {w : World} {v q : Value} {n j : Nat} {cs : List Value} {t : TypeId} {x : Operand} {ρ : Operand → Value} {sz : Nat} (h : RowV (heapOf w) v sz n cs) (hq : cs[j]? = some q) (ha : ∀ w, (isAgg t).run P w = .ok false w) (ho : o.op = .load t x) (hx : ρ x = elp v j) : (execOp ρ o).run P w = .ok (.value q) w := by
  obtain ⟨h0, a, c, rfl, _, h3⟩ := h
  rcases h3 with rfl | ⟨b, off, arr, t', z, rfl, e2, e3⟩
  · have : cs = [] := List.eq_nil_of_length_eq_zero (by simpa using h0)
    subst this
    simp at hq
  · simp only [execOp, ho, hx]
    refine val_run ?_
    show ((isAgg t).bind _).run P w = _
    rw [run_of_bind (ha w)]
    refine run_load ?_
    rw [add_none, cell_of (show w.heap[b]? = _ from e2)]
    exact e3 j q hq
/-- A load of one cell out of a row that stays. -/
theorem i_loadEl {v q : Value} {n j sz : Nat} {cs : List Value} {t : TypeId} {x : Operand} (h : RowV I v sz n cs) (hq : cs[j]? = some q) (ha : ∀ w, (isAgg t).run P w = .ok false w) (ho : o.op = .load t x) (hx : ev S x = some (elp v j)) : FImm P o I S q :=
  fun ρ hρ w hi => load_row (h.world hi) hq ha ho (hρ _ _ hx)
/-- .. out of an own row. -/
theorem f_loadEl {v q : Value} {cur : Array Value} {e n j sz i : Nat} {cs : List Value} {t : TypeId} {x : Operand} (hH : H[i]? = some (v.ownBlock, .cells cur e (0, 0))) (h : OwnV v cur sz n cs) (hq : cs[j]? = some q) (ha : ∀ w, (isAgg t).run P w = .ok false w) (ho : o.op = .load t x) (hx : ev S x = some (elp v j)) : FQuiet P o w0 I S H q :=
  fun ρ hρ w hc => .inl (load_row (h.row hc (List.mem_of_getElem? hH)) hq ha ho (hρ _ _ hx))
/-- A store into a cell of an own row. -/
theorem OwnV.set {v q : Value} {cur : Array Value} {n j sz : Nat} {cs : List Value} (h : OwnV v cur sz n cs) (hj : j < n * sz) : OwnV v (cur.setIfInBounds j q) sz n (cs.set j q) := by
  refine ⟨by rw [List.length_set]; exact h.1, ?_⟩
  rcases h.2 with ⟨rfl, rfl⟩ | ⟨g, cap, rfl, k1, k2, k3, k4⟩
  · simp at hj
  · refine .inr ⟨g, cap, rfl, k1, k2, by simpa using k3, ?_⟩
    rw [← k4, Array.toList_setIfInBounds, List.take_set]
/-! #### slices of numbers -/
def IntOwn (k : IntKind) (v : Value) (cur : Array Value) (xs : List Int) : Prop := OwnV v cur 1 xs.length (encl k xs)
def IntRow (M : Nat → Option Obj) (k : IntKind) (v : Value) (xs : List Int) : Prop := RowV M v 1 xs.length (encl k xs)
theorem IntOwn.row {k : IntKind} {v : Value} {cur : Array Value} {e i : Nat} {xs : List Int} (h : IntOwn k v cur xs) {w : World} (hc : Cls w0 I H w) (hH : H[i]? = some (v.ownBlock, .cells cur e (0, 0))) : IntRow (heapOf w) k v xs := OwnV.row h hc (List.mem_of_getElem? hH)
theorem IntRow.world {k : IntKind} {v : Value} {xs : List Int} (h : IntRow I k v xs) {w : World} (hc : Cls w0 I H w) : IntRow (heapOf w) k v xs := RowV.world h hc.imm
theorem IntOwn.src {k : IntKind} {v : Value} {cur : Array Value} {e i : Nat} {xs : List Int} (h : IntOwn k v cur xs) {w : World} (hc : Cls w0 I H w) (hH : H[i]? = some (v.ownBlock, .cells cur e (0, 0))) : Src w v xs.length 1 (encl k xs) := OwnV.src h hc (List.mem_of_getElem? hH) (encl_one k xs)
theorem IntRow.src {k : IntKind} {v : Value} {xs : List Int} (h : IntRow I k v xs) {w : World} (hc : Cls w0 I H w) : Src w v xs.length 1 (encl k xs) := RowV.src (RowV.world h hc.imm) (encl_one k xs)
theorem IntOwn.nil (k : IntKind) : IntOwn k (.slice none 0 0) #[] [] := OwnV.nil 1
theorem IntOwn.set {k : IntKind} {v : Value} {cur : Array Value} {xs : List Int} (h : IntOwn k v cur xs) {j : Nat} (hj : j < xs.length) (q : Int) : IntOwn k v (cur.setIfInBounds j (.int k q)) (xs.set j q) := by
  have := OwnV.set (q := .int k q) h (j := j) (by omega)
  unfold IntOwn
  rw [List.length_set]
  simpa [encl, List.map_set] using this
theorem own_any (k : IntKind) {xs : List Int} (h : xs.length ≤ maxLen) : Nonempty {x : Value × Array Value // IntOwn k x.1 x.2 xs} := own_inhabited h (by simp [encl])

variable {R : Ending → World → Prop} {N : Nat} {f : FuncId} {K : List Item} {ops : Array Oper} {lab : Lab} {ids : Nat → Option Nat} {l : List Nat} {i d : Nat}

theorem f_appendInt {t e bytes j : Nat} {k : IntKind} {x y : Operand} {v u : Value} {cur : Array Value} {xs ys : List Int} (E : Elem P t e 1 bytes (.int k 0)) (hH : H[j]? = some (v.ownBlock, .cells cur e (0, 0))) (hown : IntOwn k v cur xs)
    (hb : xs.length + ys.length ≤ 1099511627776) (hby : bytes ≤ 128) (hu : ∀ w, Cls w0 I H w → Src w u ys.length 1 (encl k ys)) (ho : o.op = .call { callee := .builtin .append, args := #[x, y], argTypes := #[t, t] }) (hx : ev S x = some v) (hy : ev S y = some u) :
    FAct P o w0 I S H {x : Value × Array Value // IntOwn k x.1 x.2 (xs ++ ys)} (fun x => x.1.1) (fun x => H.set j (x.1.1.ownBlock, .cells x.1.2 e (0, 0))) := by
  have := f_append (w0 := w0) (I := I) E hH hown hb hby hu ho hx hy
  have e1 : encl k xs ++ encl k ys = encl k (xs ++ ys) := by simp [encl]
  rw [e1, show xs.length + ys.length = (xs ++ ys).length by simp] at this
  exact this

/-- An operation that gives an own slice of numbers. -/
theorem DL.own {k : IntKind} {zs : List Int} {H' : Value → Array Value → Heap} (hz : zs.length ≤ 1099511627776) (hi : ops[i]? = some o) (hw : Wn ops S o true) (hd : o.dst = some d) (hN : Nat.blt d N = true) (hk : (lab i).1 = .act)
    {HH : {x : Value × Array Value // IntOwn k x.1 x.2 zs} → Heap} (hp : FAct P o w0 I S H {x : Value × Array Value // IntOwn k x.1 x.2 zs} (fun x => x.1.1) HH) (hH : ∀ x, HH x = H' x.1.1 x.1.2)
    (h : ∀ v cur, IntOwn k v cur zs → DK P N w0 I Kc ops lab ids l ((d, v) :: S) (H' v cur)) : DK P N w0 I Kc ops lab ids (i :: l) S H :=
  DL.act (own_any k (by simp [maxLen]; omega)) hi hw hd hN hk hp fun x => by rw [hH]; exact h x.1.1 x.1.2 x.2

theorem Cls.more {w w' : World} (hc : Cls w0 I H w) (hb : Below w.heap.size w w') {r : Option Nat} {ob : Obj} (hr : ∀ b, r = some b → w.heap.size ≤ b ∧ w'.heap[b]? = some ob) : Cls w0 I ((r, ob) :: H) w' := by
  have h1 := hc.below hb
  cases r with
  | none => exact h1.nothing ob
  | some b =>
    obtain ⟨h2, h3⟩ := hr b rfl
    refine ⟨h1.os, h1.tape, h1.output, h1.size, h1.imm, fun c u hm => ?_, fun c u hm => ?_, ?_⟩
    · cases hm with
      | head => exact h3
      | tail _ hm => exact h1.own c u hm
    · cases hm with
      | head =>
        cases hI : I b with
        | none => rfl
        | some u => have := lt_of_get (hc.imm b u hI); omega
      | tail _ hm => exact h1.disj c u hm
    · simp only [List.filterMap_cons]
      refine List.nodup_cons.2 ⟨fun hm => ?_, h1.nodup⟩
      obtain ⟨u, hu⟩ := mem_ids.1 hm
      have := lt_of_get (hc.own b u hu)
      omega
/-- A call whose contract asks something of the world. -/
theorem f_callR {cl : Call} {g : FuncId} {args : Array Value} {v : Value} (ho : o.op = .call cl) (hcal : cl.callee = .value (.func g)) (hargs : ∀ ρ, Val S ρ → cl.args.map ρ = args)
    (hbody : ∀ w, (callFunc g args).run P w = .ok (.enter g args) w) (hc : ∀ w, Cls w0 I H w → Calls P g args w fun e w' => e = .returned v ∧ Below w.heap.size w w') : FQuiet P o w0 I S H v := fun ρ hρ w hcl => .inr ⟨g, args, by
  simp only [execOp, ho, resolve, hcal, hargs ρ hρ]
  have h1 : ρ (.func g) = .func (.func g) #[] #[] := hρ _ _ rfl
  rw [h1]
  show (callFunc g (#[] ++ args ++ #[])).run P w = _
  simpa using hbody w, hc w hcl⟩
/-- A new slice. -/
theorem DL.newSl {k : IntKind} {zs : List Int} {e n : Nat} (hz : zs.length = n) (hm : n ≤ maxLen) (hi : ops[i]? = some o) (hw : Wn ops S o true) (hd : o.dst = some d) (hN : Nat.blt d N = true) (hk : (lab i).1 = .alloc)
    (hp : FNew P o S (.cells (enc k zs) e) (fun b => .slice (some ⟨b, 0, none⟩) n n)) (h : ∀ v cur, IntOwn k v cur zs → DK P N w0 I Kc ops lab ids l ((d, v) :: S) ((v.ownBlock, .cells cur e (0, 0)) :: H)) : DK P N w0 I Kc ops lab ids (i :: l) S H :=
  DL.new hi hw hd hN hk hp fun b hb => h (.slice (some ⟨b, 0, none⟩) n n) (enc k zs) (by
    subst hz
    exact OwnV.fresh (Nat.le_refl _) hm (by simp [enc_size]) (by simp only [enc, encl, Nat.mul_one]; rw [List.take_of_length_le (by simp)]) (by simp [encl]))
theorem f_buildSl {t e bytes n : Nat} {k : IntKind} {zs : List Int} {parts : Array (Nat × Operand)} {vs : List (Nat × Value)} (E : Elem P t e 1 bytes (.int k 0)) (hn : Nat.ble n 16777216 = true) (h0 : Nat.blt 0 n = true)
    (hf : Instr.fill (fun i => some (i * 1, 1)) ((Array.range (n * 1)).map ((Value.int k 0).cells[· % (Value.int k 0).cells.size]!)) vs = some (enc k zs)) (ho : o.op = .buildSlice t n parts) (hp : ∀ ρ, Val S ρ → (parts.map fun p => (p.1, ρ p.2)).toList = vs) :
    FNew P o S (.cells (enc k zs) e) (fun b => .slice (some ⟨b, 0, none⟩) n n) := fun ρ hρ w => by
  obtain ⟨i, hi, hz, hs, hbb⟩ := E.hi
  have h1 := Nat.le_of_ble_eq_true hn
  have h2 : 0 < n := by simpa [Nat.blt_eq] using h0
  simp only [execOp, ho]
  refine val_run ?_
  refine run_buildSlice w t e n _ _ i _ E.ht hi hz (by rw [hs]; omega) (by rw [hs]; omega) ?_
  rw [hs, ← hf, ← hp ρ hρ]
theorem p_slIx1 {T e n : Nat} {x y : Operand} {v : Value} {k : IntKind} {i : Int} (hu : ∀ w, (underlying T).run P w = .ok (.slice e) w) (hs : ∀ w, (sizeOf e).run P w = .ok 1 w) (hv : ∃ a c, v = .slice (some a) n c) (h0 : 0 ≤ i) (h1 : i < (n : Int))
    (ho : o.op = .indexAddr T x y) (hx : ev S x = some v) (hy : ev S y = some (.int k i)) : FPure P o S (elp v i.toNat) := by
  have := p_slIx (S := S) hu hs hv h0 h1 ho hx hy
  rwa [Nat.mul_one] at this
theorem lt_len {i : Int} {n : Nat} (h0 : 0 ≤ i) (h1 : i < (n : Int)) : i.toNat < n := by omega
/-- A nil slice is an own one. -/
theorem TT.nilOwn {e : TypeId} (h : TT P f R N w0 I K S ((none, .cells #[] e (0, 0)) :: H)) : TT P f R N w0 I K S H := fun a w ha hc => h a w ha (hc.nothing _)
theorem args_val2 {parts : Array (Nat × Operand)} {vs : List (Nat × Value)} (h : evps S parts.toList = some vs) : ∀ ρ, Val S ρ → (parts.map fun p => (p.1, ρ p.2)).toList = vs := fun ρ hρ => by rw [Array.toList_map]; exact evps_val hρ _ _ h
end
end Go.HW
end

section
namespace Go.HW
open Go Go.RowKit
set_option linter.unusedVariables false
set_option linter.unusedSimpArgs false

/-! ### maps by numbers -/
/-- Entries by numbers: key, value, in the order of their making. -/
def ments (k : IntKind) (n : Nat) : List (Int × Value) → List MapEntry
  | [] => []
  | (a, v) :: r => { key := .int k a, val := v, born := n } :: ments k (n + 1) r
/-- A map's block. -/
def mobj (k : IntKind) (l : List (Int × Value)) : Obj := .map (ments k 0 l).toArray l.length
def mfind (a : Int) : List (Int × Value) → Option Value
  | [] => none
  | (b, v) :: r => if a == b then some v else mfind a r
theorem ments_append (k : IntKind) : ∀ (l : List (Int × Value)) (n : Nat) (a : Int) (v : Value), ments k n (l ++ [(a, v)]) = ments k n l ++ [{ key := .int k a, val := v, born := n + l.length }]
  | [], n, a, v => by simp [ments]
  | (b, u) :: l, n, a, v => by simp [ments, ments_append k l (n + 1) a v]; omega
theorem findNow_ments (k : IntKind) (a : Int) : ∀ (l : List (Int × Value)) (n i : Nat), ∃ r, Instr.findNow (.int k) (.int k a) (ments k n l) i = some r ∧ r.map (·.2) = mfind a l
  | [], n, i => ⟨none, rfl, rfl⟩
  | (b, u) :: l, n, i => by
    obtain ⟨r, h1, h2⟩ := findNow_ments k a l (n + 1) (i + 1)
    cases h : (a == b) with
    | true => exact ⟨some (i, u), by simp [ments, Instr.findNow, Instr.sameNow, h], by simp [mfind, h]⟩
    | false => exact ⟨r, by simpa [ments, Instr.findNow, Instr.sameNow, h] using h1, by simpa [mfind, h] using h2⟩
section
variable {Kc : Act → World → Prop} {P : Program} {o : Oper} {S : Slots} {w0 : World} {I : Nat → Option Obj} {H : Heap}
theorem run_findKey_int {t : TypeId} {k : IntKind} (hu : ∀ w, (underlying t).run P w = .ok (.int k) w) (a : Int) (l : List (Int × Value)) (w : World) : ∃ r, (Instr.findKey t (.int k a) (ments k 0 l)).run P w = .ok r w ∧ r.map (·.2) = mfind a l := by
  obtain ⟨r, h1, h2⟩ := findNow_ments k a l 0 0
  refine ⟨r, ?_, h2⟩
  unfold Instr.findKey
  refine (run_of_bind (hu w)).trans ?_
  rw [h1]; rfl
theorem run_checkKey_int {t : TypeId} {k : IntKind} (hu : ∀ w, (underlying t).run P w = .ok (.int k) w) (a : Int) (e : Bool) (w : World) : (Instr.checkKey e 10000 t (.int k a)).run P w = .ok () w := by
  unfold Instr.checkKey
  exact (run_of_bind (hu w)).trans rfl
theorem f_makeMap {t : TypeId} {k : IntKind} (ho : o.op = .makeMap t none) : FNew P o S (mobj k []) (fun b => .map (some b)) := fun ρ hρ w => by
  simp only [execOp, ho]
  rfl
theorem run_getObj {r : Nat} {es : Array MapEntry} {c : Nat} {w : World} (h : w.heap[r]? = some (.map es c)) : (getObj r).run P w = .ok (.map es c) w := by
  simp [getObj, Sem.run, h]
theorem f_lookup {t kt e : TypeId} {k : IntKind} {x y : Operand} {b j : Nat} {a : Int} {l : List (Int × Value)} {z : Value} (hm : ∀ w, (underlying t).run P w = .ok (.map kt e) w) (hk : ∀ w, (underlying kt).run P w = .ok (.int k) w) (hz : ∀ w, (zeroValue e).run P w = .ok z w)
    (hH : H[j]? = some (some b, mobj k l)) (ho : o.op = .lookup t x y false) (hx : ev S x = some (.map (some b))) (hy : ev S y = some (.int k a)) : FQuiet P o w0 I S H ((mfind a l).getD z) := fun ρ hρ w hc => .inl (by
  simp only [execOp, ho, hρ _ _ hx, hρ _ _ hy]
  refine val_run ?_
  have hb := hc.own b _ (List.mem_of_getElem? hH)
  obtain ⟨r, h1, h2⟩ := run_findKey_int (P := P) hk a l w
  unfold Instr.lookup
  refine (run_of_bind (hm w)).trans ?_
  refine (run_of_bind (run_getObj hb)).trans ?_
  refine (run_of_bind (x := Pure.pure (ments k 0 l).toArray) (a := (ments k 0 l).toArray) (w' := w) rfl).trans ?_
  refine (run_of_bind (run_checkKey_int hk a _ w)).trans ?_
  refine (run_of_bind h1).trans ?_
  rw [← h2]
  cases r with
  | none => exact (run_of_bind (hz w)).trans rfl
  | some p => rfl)
theorem run_setObj {r : Nat} {es es' : Array MapEntry} {c c' : Nat} {w : World} (h : w.heap[r]? = some (.map es c)) : ∃ w', (setObj r (.map es' c')).run P w = .ok () w' ∧ w'.os = w.os ∧ w'.tape = w.tape ∧ w'.output = w.output ∧ w'.heap.size = w.heap.size ∧ w'.heap[r]? = some (.map es' c') ∧ ∀ d, d ≠ r → w'.heap[d]? = w.heap[d]? := by
  have hlt := lt_of_get h
  refine ⟨{ w with heap := w.heap.setIfInBounds r (.map es' c') }, ?_, rfl, rfl, rfl, ?_, ?_, ?_⟩
  · simp only [setObj, Sem.run, h]
  · simp
  · simp [hlt]
  · intro d hd
    simp [Array.getElem?_setIfInBounds, Ne.symm hd]
/-- A new key. -/
theorem f_insert {t kt e : TypeId} {k : IntKind} {x y z : Operand} {b j : Nat} {a : Int} {v : Value} {l : List (Int × Value)} (hm : ∀ w, (underlying t).run P w = .ok (.map kt e) w) (hk : ∀ w, (underlying kt).run P w = .ok (.int k) w)
    (hH : H[j]? = some (some b, mobj k l)) (hnew : mfind a l = none) (ho : o.op = .insert t x y z) (hx : ev S x = some (.map (some b))) (hy : ev S y = some (.int k a)) (hz : ev S z = some v) : FPut P o w0 I S H (H.set j (some b, mobj k (l ++ [(a, v)]))) := fun ρ hρ w hc => by
  simp only [execOp, ho, hρ _ _ hx, hρ _ _ hy, hρ _ _ hz]
  have hb := hc.own b _ (List.mem_of_getElem? hH)
  obtain ⟨r, h1, h2⟩ := run_findKey_int (P := P) hk a l w
  rw [hnew] at h2
  have hr : r = none := by cases r with
    | none => rfl
    | some p => cases h2
  subst hr
  obtain ⟨w', g1, g2, g3, g4, g5, g6, g7⟩ := run_setObj (P := P) (es' := (ments k 0 l).toArray.push { key := .int k a, val := v, born := l.length }) (c' := l.length + 1) hb
  refine ⟨w', ?_, ?_⟩
  · refine (run_of_bind (a := ()) (w' := w') ?_).trans rfl
    unfold Instr.mapUpdate
    refine (run_of_bind (hm w)).trans ?_
    refine (run_of_bind (run_getObj hb)).trans ?_
    refine (run_of_bind (run_checkKey_int hk a _ w)).trans ?_
    exact (run_of_bind h1).trans g1
  · refine hc.setObj hH g2 g3 g4 g5 ?_ g7
    rw [g6]
    simp [mobj, ments_append]

/-! ### what a call hands out, with its blocks -/
theorem Cls.moreH {w w' : World} (hc : Cls w0 I H w) (hb : Below w.heap.size w w') {E : Heap} (hE : ∀ b o, (some b, o) ∈ E → w.heap.size ≤ b ∧ w'.heap[b]? = some o) (hn : (E.filterMap Prod.fst).Nodup) : Cls w0 I (E ++ H) w' := by
  have h1 := hc.below hb
  refine ⟨h1.os, h1.tape, h1.output, h1.size, h1.imm, fun c u hm => ?_, fun c u hm => ?_, ?_⟩
  · rcases List.mem_append.1 hm with hm | hm
    · exact (hE c u hm).2
    · exact h1.own c u hm
  · rcases List.mem_append.1 hm with hm | hm
    · cases hI : I c with
      | none => rfl
      | some z => have := lt_of_get (hc.imm c z hI); have := (hE c u hm).1; omega
    · exact h1.disj c u hm
  · rw [List.filterMap_append, List.nodup_append]
    refine ⟨hn, h1.nodup, fun a ha b hb e => ?_⟩
    subst e
    obtain ⟨u, hu⟩ := mem_ids.1 ha
    obtain ⟨z, hz⟩ := mem_ids.1 hb
    have := (hE a u hu).1
    have := lt_of_get (hc.own a z hz)
    omega
/-- A call of a closure, by value. -/
theorem f_callV {v : Value} {cl : Call} {f : Operand} {g : FuncId} {caps args all : Array Value} (he : args ++ caps = all) (ho : o.op = .call cl) (hcal : cl.callee = .value f) (hf : ev S f = some (.func (.func g) #[] caps)) (hargs : ∀ ρ, Val S ρ → cl.args.map ρ = args)
    (hbody : ∀ w, (callFunc g all).run P w = .ok (.enter g all) w) (hc : ∀ w, Cls w0 I H w → Calls P g all w fun e w' => e = .returned v ∧ Below w.heap.size w w') : FQuiet P o w0 I S H v := fun ρ hρ w hcl => .inr ⟨g, all, by
  subst he
  simp only [execOp, ho, resolve, hcal, hargs ρ hρ]
  rw [hρ _ _ hf]
  show (callFunc g (#[] ++ args ++ caps)).run P w = _
  simpa using hbody w, hc w hcl⟩
variable {R : Ending → World → Prop} {N : Nat} {f : FuncId} {K : List Item} {ops : Array Oper} {lab : Lab} {ids : Nat → Option Nat} {l : List Nat} {i d : Nat}
theorem p_makeFunc {fn : Fn} {cs : Array Operand} {caps : Array Value} (ho : o.op = .makeFunc fn #[] cs) (hc : ∀ ρ, Val S ρ → cs.map ρ = caps) : FPure P o S (.func fn #[] caps) := fun ρ hρ w => by
  simp only [execOp, ho, hc ρ hρ]
  refine val_run (v := .func fn #[] caps) ?_
  simp [Instr.makeFunc]
/-- Is a function nil? -/
theorem p_eqNil {T U : TypeId} {x y : Operand} {v : Value} {b : Bool} (hr : ∀ w, (binOp .eql T v .nilFunc).run P w = .ok (.bool b) w) (hg : ∀ w, (eqGuard .eql T x y v .nilFunc).run P w = .ok () w) (ho : o.op = .binOp .eql T x y U) (hx : ev S x = some v) (hy : ev S y = some .nilFunc) : FPure P o S (.bool b) := fun ρ hρ w => by
  simp only [execOp, ho, hρ _ _ hx, hρ _ _ hy]
  refine val_run ?_
  exact (run_of_bind (hg w)).trans (hr w)
theorem i_loadBox {t t' : TypeId} {x : Operand} {b : Nat} {c : Array Value} {v : Value} {z : Nat × Nat} (hb : I b = some (.cells c t' z)) (hv : c[0]? = some v) (ha : ∀ w, (isAgg t).run P w = .ok false w) (ho : o.op = .load t x) (hx : ev S x = some (ptr b 0)) : FImm P o I S v := fun ρ hρ w hi => by
  simp only [execOp, ho, hρ _ _ hx]
  refine val_run ?_
  show ((isAgg t).bind _).run P w = _
  rw [run_of_bind (ha w)]
  exact run_load (by rw [cell_of (hi b _ hb), hv])
theorem f_lookupV {v : Value} {a : Int} {l : List (Int × Value)} {z : Value} (hv : (mfind a l).getD z = v) (h : FQuiet P o w0 I S H ((mfind a l).getD z)) : FQuiet P o w0 I S H v := by rw [← hv]; exact h
end
end Go.HW
end

section
namespace Go.HW
open Go Go.RowKit
set_option linter.unusedVariables false
set_option linter.unusedSimpArgs false

/-! ### what stays, as memory -/
abbrev Mem := Nat → Option Obj
def Ext (M M' : Mem) : Prop := ∀ b o, M b = some o → M' b = some o
theorem Ext.refl (M : Mem) : Ext M M := fun _ _ h => h
theorem Ext.trans {M M' M'' : Mem} (h : Ext M M') (h' : Ext M' M'') : Ext M M'' := fun b o e => h' b o (h b o e)
def inJ : Heap → Nat → Option Obj
  | [], _ => none
  | (some c, o) :: r, b => if c = b then some o else inJ r b
  | (none, _) :: r, b => inJ r b
def addJ (M : Mem) (J : Heap) : Mem := fun b => match M b with
  | some o => some o
  | none => inJ J b
theorem inJ_mem : ∀ {J : Heap} {b : Nat} {o : Obj}, inJ J b = some o → (some b, o) ∈ J
  | (some c, u) :: r, b, o, h => by
    unfold inJ at h
    split at h
    · subst_vars; cases h; exact List.mem_cons_self
    · exact List.mem_cons_of_mem _ (inJ_mem h)
  | (none, u) :: r, b, o, h => List.mem_cons_of_mem _ (inJ_mem (J := r) h)
theorem inJ_of_mem : ∀ {J : Heap} {b : Nat} {o : Obj}, (J.filterMap Prod.fst).Nodup → (some b, o) ∈ J → inJ J b = some o
  | (some c, u) :: r, b, o, hn, h => by
    unfold inJ
    simp only [List.filterMap_cons] at hn
    cases h with
    | head => simp
    | tail _ h =>
      have : c ≠ b := fun e => by subst e; exact (List.nodup_cons.1 hn).1 (mem_ids.2 ⟨o, h⟩)
      rw [if_neg this]
      exact inJ_of_mem (List.nodup_cons.1 hn).2 h
  | (none, u) :: r, b, o, hn, h => by
    unfold inJ
    cases h with
    | tail _ h => exact inJ_of_mem (by simpa using hn) h
theorem Ext.addJ (M : Mem) (J : Heap) : Ext M (addJ M J) := fun b o h => by unfold HW.addJ; rw [h]
theorem addJ_nil (M : Mem) : HW.addJ M [] = M := funext fun b => by
  unfold HW.addJ
  cases M b <;> rfl
theorem addJ_cases {M : Mem} {J : Heap} {b : Nat} {o : Obj} (h : HW.addJ M J b = some o) : M b = some o ∨ (M b = none ∧ (some b, o) ∈ J) := by
  unfold HW.addJ at h
  split at h
  · rename_i h'; cases h; exact .inl h'
  · rename_i h'; exact .inr ⟨h', inJ_mem h⟩

section
variable {w0 w : World} {I : Mem} {H A J : Heap}
theorem Cls.immJ (hc : Cls w0 I H w) (hs : ∀ p ∈ J, p ∈ H) : Imm (addJ I J) w := fun b o h => by
  rcases addJ_cases h with h | ⟨_, h⟩
  · exact hc.imm b o h
  · exact hc.own b o (hs _ h)
theorem Cls.settle (hc : Cls w0 I (A ++ J) w) : Cls w0 (addJ I J) A w := by
  refine ⟨hc.os, hc.tape, hc.output, hc.size, hc.immJ fun p hp => List.mem_append_right _ hp, fun b o h => hc.own b o (List.mem_append_left _ h), fun b o h => ?_, ?_⟩
  · cases e : addJ I J b with
    | none => rfl
    | some u =>
      rcases addJ_cases e with e | ⟨_, e⟩
      · rw [hc.disj b o (List.mem_append_left _ h)] at e; cases e
      · have hn := hc.nodup
        rw [List.filterMap_append, List.nodup_append] at hn
        exact absurd rfl (hn.2.2 b (mem_ids.2 ⟨o, h⟩) b (mem_ids.2 ⟨u, e⟩))
  · have hn := hc.nodup
    rw [List.filterMap_append, List.nodup_append] at hn
    exact hn.1

/-- 'M0': what stays, as the call began; 'M': .. now; 'I': all that nobody writes. -/
structure EnvX (xh : Option Nat) (w0 : World) (M0 M I : Mem) : Prop where
  mi : Ext M I
  hbase : ∀ b o, xh ≠ some b → heapOf w0 b = some o → I b = some o
  grow : Ext M0 M
  new : ∀ b, M b ≠ none → M0 b = none → w0.heap.size ≤ b
/-- .. where no block is turned that was there. -/
abbrev Env (w0 : World) (M0 M I : Mem) : Prop := EnvX none w0 M0 M I
theorem EnvX.base {w0 : World} {M0 M I : Mem} (h : EnvX none w0 M0 M I) : Ext (heapOf w0) I := fun b o e => h.hbase b o (fun h => by cases h) e
variable {M0 M M' : Mem} {xh : Option Nat}
theorem Env.start (h : Ext M0 (heapOf w0)) : Env w0 M0 M0 (heapOf w0) := ⟨h, fun _ _ _ h => h, Ext.refl _, fun b h1 h2 => absurd h2 h1⟩
theorem EnvX.nil (h : EnvX xh w0 M0 M I) : EnvX xh w0 M0 M (addJ I []) := by rw [addJ_nil]; exact h
theorem EnvX.imm {w1 : World} (h : EnvX xh w0 M0 M I) (hc : Cls w1 I H w) : Imm M w := fun b o e => hc.imm b o (h.mi b o e)
theorem EnvX.ext {w1 : World} (h : EnvX xh w0 M0 M I) (hc : Cls w1 I H w) : Ext M (heapOf w) := h.imm hc
theorem EnvX.immJ {w1 : World} (h : EnvX xh w0 M0 M (addJ I J)) (hc : Cls w1 I H w) (hH : H = A ++ J) : Imm M w := fun b o e => hc.immJ (J := J) (fun p hp => by rw [hH]; exact List.mem_append_right _ hp) b o (h.mi b o e)
theorem EnvX.extJ {w1 : World} (h : EnvX xh w0 M0 M (addJ I J)) (hc : Cls w1 I H w) (hH : H = A ++ J) : Ext M (heapOf w) := h.immJ hc hH
theorem Cls.belowE (hB : Ext (heapOf w0) I) (hc : Cls w0 I H w) : Below w0.heap.size w0 w :=
  ⟨hc.os, hc.tape, hc.output, hc.size, fun b hb => by
    cases e : w0.heap[b]? with
    | none => rw [Array.getElem?_eq_getElem hb] at e; cases e
    | some o => exact hc.imm b o (hB b o e)⟩
theorem Cls.fresh (hB : Ext (heapOf w0) I) (hc : Cls w0 I H w) {b : Nat} {o : Obj} (hm : (some b, o) ∈ H) : w0.heap.size ≤ b := by
  rcases Nat.lt_or_ge b w0.heap.size with h | h
  · have := hB b w0.heap[b] (show w0.heap[b]? = _ from Array.getElem?_eq_getElem h)
    rw [hc.disj b o hm] at this; cases this
  · exact h

section
variable {Kc : Act → World → Prop} {P : Program} {f : FuncId} {R : Ending → World → Prop} {N : Nat} {k : List Item} {S : Slots}
theorem TT.settle (hE : EnvX xh w0 M0 M (addJ I J)) (h : ∀ I', EnvX xh w0 M0 M I' → Ext I I' → TT P f R N w0 I' k S A) : TT P f R N w0 I k S (A ++ J) := fun a w ha hc =>
  h (addJ I J) hE (Ext.addJ _ _) a w ha hc.settle
theorem cons_eraseIdx {α : Type} : ∀ (l : List α) (j : Nat) (h : j < l.length), ([l[j]] ++ l.eraseIdx j).Perm l
  | a :: l, 0, h => List.Perm.refl _
  | a :: l, j + 1, h => by
    have ih := cons_eraseIdx l j (by simpa using h)
    simp only [List.getElem_cons_succ, List.eraseIdx_cons_succ, List.singleton_append] at ih ⊢
    exact (List.Perm.swap a _ _).trans (ih.cons a)
/-- An own block stays from here on. -/
theorem TT.freezeAtX {j : Nat} {r : Option Nat} {o : Obj} (hq : ∀ b, xh = some b → ∃ i o, i ≠ j ∧ H[i]? = some (some b, o)) (hE : EnvX xh w0 M0 M I) (hH : H[j]? = some (r, o)) (h : ∀ M' I', EnvX xh w0 M0 M' I' → Ext M M' → Ext I I' → (∀ b, r = some b → M' b = some o) → TT P f R N w0 I' k S (H.eraseIdx j)) : TT P f R N w0 I k S H := fun a w ha hc => by
  have hlt : j < H.length := by
    rcases Nat.lt_or_ge j H.length with h | h
    · exact h
    · rw [List.getElem?_eq_none h] at hH; cases hH
  have hget : H[j] = (r, o) := by rw [List.getElem?_eq_getElem hlt] at hH; exact Option.some.inj hH
  have hp : (H.eraseIdx j ++ [(r, o)]).Perm H := by
    rw [← hget]
    exact List.perm_append_comm.trans (cons_eraseIdx H j hlt)
  have hc' := (hc.perm hp.symm).settle
  have hxb : ∀ b, r = some b → xh ≠ some b := fun b e ex => by
    obtain ⟨i, o', hij, hi⟩ := hq b ex
    rw [e] at hH
    exact hij (ids_unique hc.nodup hi hH)
  have hr : ∀ b, r = some b → I b = none := fun b e => hc.disj b o (by rw [← e]; exact List.mem_of_getElem? hH)
  refine h (addJ M [(r, o)]) (addJ I [(r, o)]) ⟨fun b u e => ?_, fun b u hne e => Ext.addJ _ _ b u (hE.hbase b u hne e), fun b u e => Ext.addJ _ _ b u (hE.grow b u e), fun b h1 h2 => ?_⟩ (Ext.addJ _ _) (Ext.addJ _ _) (fun b e => ?_) a w ha hc'
  · rcases addJ_cases e with e | ⟨e0, e⟩
    · exact Ext.addJ _ _ b u (hE.mi b u e)
    · simp only [List.mem_singleton] at e
      injection e with e1 e2
      unfold addJ
      rw [hr b e1.symm]
      subst e2
      rw [← e1]; simp [inJ]
  · cases e : addJ M [(r, o)] b with
    | none => exact absurd e h1
    | some u =>
      rcases addJ_cases e with e | ⟨_, e⟩
      · exact hE.new b (by rw [e]; exact fun h => by cases h) h2
      · simp only [List.mem_singleton] at e
        injection e with e1 e2
        rcases Nat.lt_or_ge b w0.heap.size with hlt2 | hge
        · have h4 := hE.hbase b w0.heap[b] (hxb b e1.symm) (show w0.heap[b]? = _ from Array.getElem?_eq_getElem hlt2)
          rw [hr b e1.symm] at h4; cases h4
        · exact hge
  · unfold addJ
    cases e2 : M b with
    | some u => have := hE.mi b u e2; rw [hr b e] at this; cases this
    | none => subst e; simp [inJ]

theorem TT.freezeAt {j : Nat} {r : Option Nat} {o : Obj} (hE : Env w0 M0 M I) (hH : H[j]? = some (r, o)) (h : ∀ M' I', Env w0 M0 M' I' → Ext M M' → Ext I I' → (∀ b, r = some b → M' b = some o) → TT P f R N w0 I' k S (H.eraseIdx j)) : TT P f R N w0 I k S H :=
  TT.freezeAtX (fun b e => by cases e) hE hH h

/-- What a contract says that gives what stays: 'u g'; 'Q' of it, in the memory that it leaves. -/
def PostF {G : Type} (u : G → Value) (Q : G → Mem → Prop) (M : Mem) (w0 : World) (en : Ending) (w : World) : Prop :=
  ∃ g M', en = .returned (u g) ∧ Q g M' ∧ Ext M M' ∧ (∀ b, M b = none → M' b ≠ none → w0.heap.size ≤ b) ∧ Imm M' w ∧ Below w0.heap.size w0 w
theorem retF {G : Type} {u : G → Value} {Q : G → Mem → Prop} (g : G) {fn : Func} {rs : List ResultVar} {vs : List Value} (hE : Env w0 M0 M I) (hf : P.funcs[f]? = some fn) (hrs : fn.results = rs.toArray) (hl : rs.length = vs.length)
    (hv : (if h : vs.toArray.size = 1 then vs.toArray[0] else .tuple vs.toArray) = u g) (hall : ∀ (i : Nat) (r : ResultVar) (u : Value), rs[i]? = some r → vs[i]? = some u → ResV P N w0 I S H r u) (hQ : Q g M) :
    TT P f (PostF u Q M0 w0) N w0 I (.code .ret :: k) S H := fun a w ha hc =>
  T.ret (fin_of (u g) hf hrs hl hv hall ha hc ⟨g, M, rfl, hQ, hE.grow, fun b h1 h2 => hE.new b h2 h1, hE.imm hc, hc.belowE hE.base⟩)
theorem ret1E {fn : Func} {r1 : ResultVar} {v1 : Value} {p : Value → Prop} (hB : Ext (heapOf w0) I) (hf : P.funcs[f]? = some fn) (hrs : fn.results = #[r1]) (h1 : ResV P N w0 I S H r1 v1) (hp : p v1) :
    TT P f (Post p w0) N w0 I (.code .ret :: k) S H := fun a w ha hc =>
  T.ret (fin_of (rs := [r1]) (vs := [v1]) v1 hf hrs rfl rfl (fun i r u hr hu => by
    match i, hr, hu with
    | 0, hr, hu => cases hr; cases hu; exact h1) ha hc ⟨v1, rfl, hp, hc.belowE hB⟩)
theorem retnE {fn : Func} {rs : List ResultVar} {vs : List Value} {v : Value} {p : Value → Prop} (hB : Ext (heapOf w0) I) (hf : P.funcs[f]? = some fn) (hrs : fn.results = rs.toArray) (hl : rs.length = vs.length)
    (hv : (if h : vs.toArray.size = 1 then vs.toArray[0] else .tuple vs.toArray) = v) (hall : ∀ (i : Nat) (r : ResultVar) (u : Value), rs[i]? = some r → vs[i]? = some u → ResV P N w0 I S H r u) (hp : p v) :
    TT P f (Post p w0) N w0 I (.code .ret :: k) S H := fun a w ha hc =>
  T.ret (fin_of v hf hrs hl hv hall ha hc ⟨v, rfl, hp, hc.belowE hB⟩)
theorem res_nil (i : Nat) (r : ResultVar) (u : Value) (h : ([] : List ResultVar)[i]? = some r) (h2 : ([] : List Value)[i]? = some u) : ResV P N w0 I S H r u := by simp at h
theorem res_cons {r1 : ResultVar} {v1 : Value} {rs : List ResultVar} {vs : List Value} (h1 : ResV P N w0 I S H r1 v1) (h : ∀ (i : Nat) (r : ResultVar) (u : Value), rs[i]? = some r → vs[i]? = some u → ResV P N w0 I S H r u) :
    ∀ (i : Nat) (r : ResultVar) (u : Value), (r1 :: rs)[i]? = some r → (v1 :: vs)[i]? = some u → ResV P N w0 I S H r u
  | 0, r, u, hr, hu => by cases hr; cases hu; exact h1
  | i + 1, r, u, hr, hu => h i r u (by simpa using hr) (by simpa using hu)
variable {Kc : Act → World → Prop} {ops : Array Oper} {lab : Lab} {ids : Nat → Option Nat} {l : List Nat} {i d : Nat} {o : Oper}
/-- What a call leaves that stays goes to what stays. -/
theorem settle_new {w1 w' : World} (hle : w0.heap.size ≤ w1.heap.size) (hcl : Cls w1 I (A ++ J) w) (hE : EnvX xh w0 M0 M (addJ I J)) (hx : Ext M M') (hnew : ∀ b, M b = none → M' b ≠ none → w.heap.size ≤ b) (himm : Imm M' w') (hbel : Below w.heap.size w w') :
    ∃ J', EnvX xh w0 M0 M' (addJ I J') ∧ Cls w1 I (A ++ J') w' ∧ ∀ p ∈ J, p ∈ J' := by
  let J2 : Heap := (List.range w'.heap.size).filterMap fun b => if w.heap.size ≤ b then (M' b).map fun o => (some b, o) else none
  have hmem : ∀ r o, (r, o) ∈ J2 → ∃ b, r = some b ∧ w.heap.size ≤ b ∧ M' b = some o := fun r o hm => by
    obtain ⟨b, _, hb⟩ := List.mem_filterMap.1 hm
    split at hb
    · rename_i hle
      cases e : M' b with
      | none => rw [e] at hb; cases hb
      | some u => rw [e] at hb; cases hb; exact ⟨b, rfl, hle, e⟩
    · cases hb
  have hids : (J2.filterMap Prod.fst).Nodup := by
    have e1 : J2.filterMap Prod.fst = (List.range w'.heap.size).filter fun b => decide (w.heap.size ≤ b) && (M' b).isSome := by
      simp only [J2, List.filterMap_filterMap]
      induction List.range w'.heap.size with
      | nil => rfl
      | cons b r ih =>
        rw [List.filterMap_cons, List.filter_cons, ih]
        by_cases hle : w.heap.size ≤ b
        · cases e : M' b <;> simp [hle, e]
        · simp [hle]
    rw [e1]
    exact List.nodup_range.filter _
  have hcl2 : Cls w1 I (J2 ++ (A ++ J)) w' := by
    refine hcl.moreH hbel (fun b o hm => ?_) hids
    obtain ⟨c, e1, h1, h2⟩ := hmem _ _ hm
    cases e1
    exact ⟨h1, himm _ _ h2⟩
  have hn := hcl2.nodup
  have hnJ : ((J2 ++ J).filterMap Prod.fst).Nodup := by
    refine hn.sublist (List.Sublist.filterMap _ ?_)
    exact List.Sublist.append (List.Sublist.refl _) (List.sublist_append_right _ _)
  have hJJ : Ext (addJ I J) (addJ I (J2 ++ J)) := fun b o h2 => by
    rcases addJ_cases h2 with h2 | ⟨h3, h2⟩
    · exact Ext.addJ _ _ b o h2
    · unfold addJ; rw [h3]
      exact inJ_of_mem hnJ (List.mem_append_right _ h2)
  refine ⟨J2 ++ J, ⟨fun b o e => ?_, fun b o hne e => hJJ b o (hE.hbase b o hne e), hE.grow.trans hx, fun b h1 h2 => ?_⟩, hcl2.perm (List.perm_append_comm_assoc J2 A J), fun p hp => List.mem_append_right _ hp⟩
  · have hlt : b < w'.heap.size := lt_of_get (himm b o e)
    cases em : M b with
    | some u =>
      have h1 := hx b u em
      rw [e] at h1; cases h1
      exact hJJ b o (hE.mi b o em)
    | none =>
      have hge := hnew b em (by rw [e]; exact fun h => by cases h)
      have hmJ : (some b, o) ∈ J2 := List.mem_filterMap.2 ⟨b, by simpa using hlt, by rw [if_pos hge, e]; rfl⟩
      have hI : I b = none := hcl2.disj b o (List.mem_append_left _ hmJ)
      show addJ I (J2 ++ J) b = some o
      unfold addJ; rw [hI]
      exact inJ_of_mem hnJ (List.mem_append_left _ hmJ)
  · by_cases hM : M b = none
    · exact Nat.le_trans hle (Nat.le_trans hcl.size (hnew b hM h1))
    · exact hE.new b hM h2
/-- A call whose result stays. -/
theorem DL.callF {G : Type} {u : G → Value} {Q : G → Mem → Prop} {cl : Call} {fo : Operand} {g : FuncId} {caps args all : Array Value} {w1 : World} (H' : Heap → Heap) (hle : w0.heap.size ≤ w1.heap.size) (hE : EnvX xh w0 M0 M (addJ I J)) (hH : H = A ++ J) (hH' : ∀ J', A ++ J' = H' J') (he : args ++ caps = all)
    (hi : ops[i]? = some o) (hw : Wn ops S o true) (hd : o.dst = some d) (hN : Nat.blt d N = true) (hk : (lab i).1 = .keep) (ho : o.op = .call cl) (hcal : cl.callee = .value fo) (hf : ev S fo = some (.func (.func g) #[] caps)) (hargs : ∀ ρ, Val S ρ → cl.args.map ρ = args)
    (hbody : ∀ w, (callFunc g all).run P w = .ok (.enter g all) w) (hc : ∀ w, Cls w1 I H w → Imm M w → Calls P g all w (PostF u Q M w))
    (h : ∀ g M' J', EnvX xh w0 M0 M' (addJ I J') → Ext M M' → Q g M' → DK P N w1 I Kc ops lab ids l ((d, u g) :: S) (H' J')) : DK P N w1 I Kc ops lab ids (i :: l) S H :=
  DL.keep (X := {x : G × Mem × Heap // EnvX xh w0 M0 x.2.1 (addJ I x.2.2) ∧ Ext M x.2.1 ∧ Q x.1 x.2.1 ∧ ∀ p ∈ J, p ∈ x.2.2}) (u := fun x => u x.1.1) (H' := fun x => A ++ x.1.2.2) (fun x p hp => by
      rw [hH] at hp
      rcases List.mem_append.1 hp with hp | hp
      · exact List.mem_append_left _ hp
      · exact List.mem_append_right _ (x.2.2.2.2 p hp)) hi hw hd hN hk
    (fun ρ hρ w hcl => .inr (.inr ⟨g, all, w, by
      subst he
      simp only [execOp, ho, resolve, hcal, hargs ρ hρ]
      rw [hρ _ _ hf]
      show (callFunc g (#[] ++ args ++ caps)).run P w = _
      simpa using hbody w, (hc w hcl (hE.immJ hcl hH)).mono fun en w' ⟨g, M', he, hQ, hx, hnew, himm, hbel⟩ => by
        subst hH
        obtain ⟨J', h1, h2, h3⟩ := settle_new hle hcl hE hx hnew himm hbel
        exact ⟨⟨(g, M', J'), h1, hx, hQ, h3⟩, he, h2⟩⟩))
    fun x => by rw [hH']; exact h x.1.1 x.1.2.1 x.1.2.2 x.2.1 x.2.2.1 x.2.2.2.1
end
end
end Go.HW
end
