import Derived.Test.YtjomnicfcdkfdaaHw13
import Derived.Laws.Strings
import Derived.Laws.Concat
import Derived.Laws.Small
import Derived.Laws.BytesArg
import Derived.Laws.Cover1
import Derived.Lib.ConvBytes
import Derived.Lib.SliceRun
import Derived.Scope
import Derived.Maps.RangeRun
import Derived.Deep.AppendSrc
import Derived.Laws.CopyRow
section
namespace Go.HW
open Go Go.RowKit
set_option linter.unusedVariables false
set_option linter.unusedSimpArgs false

/-! ### texts -/
/-- Numbers as bytes. -/
def bytesL (xs : List Int) : List UInt8 := xs.map fun n => UInt8.ofNat n.toNat
section
variable {P : Program} {o : Oper} {S : Slots} {w0 : World} {I : Mem} {H : Heap} {T U : TypeId} {x y : Operand} {a b : List UInt8}
theorem p_str {op : BinOp} {v : Value} (hr : ∀ w, (binOp op T (str a) (str b)).run P w = .ok v w) (ho : o.op = .binOp op T x y U) (hx : ev S x = some (str a)) (hy : ev S y = some (str b)) : FPure P o S v := fun ρ hρ w => by
  simp only [execOp, ho, hρ _ _ hx, hρ _ _ hy]
  refine val_run ?_
  have hg : (eqGuard op T x y (str a) (str b)).run P w = .ok () w := by
    cases op <;> rfl
  exact (run_of_bind hg).trans (hr w)
theorem p_strEq (ho : o.op = .binOp .eql T x y U) (hx : ev S x = some (str a)) (hy : ev S y = some (str b)) : FPure P o S (.bool (a == b)) := p_str (fun w => by rw [str, str, binOp_string_eql]; simp) ho hx hy
theorem p_strNe (ho : o.op = .binOp .neq T x y U) (hx : ev S x = some (str a)) (hy : ev S y = some (str b)) : FPure P o S (.bool (!(a == b))) := p_str (fun w => by rw [str, str, binOp_string_neq]; simp) ho hx hy
/-! ### parts of slices and of texts -/
theorem run_bound {v : Int} {k : IntKind} {y : Nat} {c : BoundsCode} {w : World} (h0 : 0 ≤ v) (h1 : v ≤ (y : Int)) : (Instr.sliceBound (.int k v) y c).run P w = .ok v.toNat w := by
  unfold Instr.sliceBound
  refine (run_of_bind (show (asIntOf (.int k v)).run P w = .ok (k, v) w from rfl)).trans ?_
  simp only [if_pos (And.intro h0 h1)]
  rfl
theorem run_bounds {s : Bool} {n c : Nat} {w : World} (lo hi : Option Value) (l h : Nat) (hh : (hi = none ∧ h = n) ∨ ∃ k, hi = some (.int k (h : Int))) (hl : (lo = none ∧ l = 0) ∨ ∃ k, lo = some (.int k (l : Int))) (h1 : h ≤ c) (h2 : l ≤ h) : (Instr.sliceBounds s n c lo hi none).run P w = .ok (l, h, c) w := by
  unfold Instr.sliceBounds
  refine (run_of_bind (a := c) (w' := w) rfl).trans ?_
  have hlo : ∀ (cd : BoundsCode) (f : Nat → Sem (Nat × Nat × Nat)), (match lo with | some v => (Instr.sliceBound v h cd).bind f | none => (Pure.pure 0 : Sem Nat).bind f).run P w = (f l).run P w := fun cd f => by
    rcases hl with ⟨rfl, rfl⟩ | ⟨k, rfl⟩
    · rfl
    · refine (run_of_bind (run_bound (by omega) (by omega))).trans ?_
      simp
  rcases hh with ⟨rfl, rfl⟩ | ⟨k, rfl⟩
  · refine (run_of_bind (a := h) (w' := w) rfl).trans ?_
    exact (hlo _ _).trans rfl
  · refine (run_of_bind (run_bound (by omega) (by omega))).trans ?_
    simp only [Int.toNat_natCast]
    exact (hlo _ _).trans rfl
/-- A part of a slice. -/
def subsl (v : Value) (sz l h : Nat) : Value := match v with
  | .slice a n c => .slice (if c = l then a else a.map (·.add (l * sz))) (h - l) (c - l)
  | v => v
theorem RowV.sub {M : Mem} {v : Value} {sz n : Nat} {cs : List Value} (hr : RowV M v sz n cs) {l h : Nat} (h1 : h ≤ n) (h2 : l ≤ h) : RowV M (subsl v sz l h) sz (h - l) ((cs.drop (l * sz)).take ((h - l) * sz)) := by
  obtain ⟨h0, a, c, rfl, hc, h3⟩ := hr
  have hmul : h * sz ≤ n * sz := Nat.mul_le_mul_right _ h1
  have hmul2 : l * sz ≤ h * sz := Nat.mul_le_mul_right _ h2
  refine ⟨by simp only [List.length_take, List.length_drop, h0, Nat.sub_mul]; omega, _, _, rfl, by omega, ?_⟩
  rcases h3 with rfl | ⟨b, off, arr, t, z, rfl, e2, e3⟩
  · left; omega
  · by_cases hz : h - l = 0
    · exact .inl hz
    · right
      have : c ≠ l := by omega
      refine ⟨b, off + l * sz, arr, t, z, ?_, e2, fun i q hq => ?_⟩
      · simp [this, add_none]
      · have hi : i < (h - l) * sz := by
          rcases Nat.lt_or_ge i ((h - l) * sz) with h' | h'
          · exact h'
          · rw [List.getElem?_eq_none (by simp; omega)] at hq; cases hq
        rw [List.getElem?_take_of_lt hi, List.getElem?_drop] at hq
        rw [Nat.add_assoc]
        exact e3 _ q hq
theorem run_sub {M : Mem} {v : Value} {sz n e : Nat} {cs : List Value} {lo hi : Option Value} {w : World} {l h : Nat} (hu : ∀ w, (underlying T).run P w = .ok (.slice e) w) (hs : ∀ w, (sizeOf e).run P w = .ok sz w) (hr : RowV M v sz n cs)
    (hh : (hi = none ∧ h = n) ∨ ∃ k, hi = some (.int k (h : Int))) (hl : (lo = none ∧ l = 0) ∨ ∃ k, lo = some (.int k (l : Int))) (h1 : h ≤ n) (h2 : l ≤ h) : (Instr.sliceAt T v lo hi none).run P w = .ok (subsl v sz l h) w := by
  obtain ⟨h0, a, c, rfl, hc, h3⟩ := hr
  unfold Instr.sliceAt
  refine (run_of_bind (hu w)).trans ?_
  unfold Instr.slice
  refine (run_of_bind (hu w)).trans ?_
  refine (run_of_bind (run_bounds lo hi l h hh hl (by omega) h2)).trans ?_
  exact (run_of_bind (hs w)).trans rfl
variable {M : Mem} {v : Value} {sz n e : Nat} {cs : List Value} {i j : Int} {k k2 : IntKind} {z : Operand}
theorem toNat_cast {i : Int} (h : 0 ≤ i) : (i.toNat : Int) = i := Int.toNat_of_nonneg h
theorem p_subL (hu : ∀ w, (underlying T).run P w = .ok (.slice e) w) (hs : ∀ w, (sizeOf e).run P w = .ok sz w) (hr : RowV M v sz n cs) (h0 : 0 ≤ i) (h1 : i ≤ (n : Int)) (ho : o.op = .slice T x (some y) none none) (hx : ev S x = some v) (hy : ev S y = some (.int k i)) : FPure P o S (subsl v sz i.toNat n) := fun ρ hρ w => by
  simp only [execOp, ho, hρ _ _ hx, Option.map_some, hρ _ _ hy, Option.map_none]
  exact val_run (run_sub (P := P) (w := w) hu hs hr (.inl ⟨rfl, rfl⟩) (.inr ⟨k, by rw [toNat_cast h0]⟩) (by omega) (by omega))
theorem p_subH (hu : ∀ w, (underlying T).run P w = .ok (.slice e) w) (hs : ∀ w, (sizeOf e).run P w = .ok sz w) (hr : RowV M v sz n cs) (h0 : 0 ≤ j) (h1 : j ≤ (n : Int)) (ho : o.op = .slice T x none (some z) none) (hx : ev S x = some v) (hz : ev S z = some (.int k2 j)) : FPure P o S (subsl v sz 0 j.toNat) := fun ρ hρ w => by
  simp only [execOp, ho, hρ _ _ hx, Option.map_some, hρ _ _ hz, Option.map_none]
  exact val_run (run_sub (P := P) (w := w) hu hs hr (.inr ⟨k2, by rw [toNat_cast h0]⟩) (.inl ⟨rfl, rfl⟩) (by omega) (by omega))
theorem IntRow.sub {k : IntKind} {xs : List Int} (hr : IntRow M k v xs) {l h : Nat} (h1 : h ≤ xs.length) (h2 : l ≤ h) : IntRow M k (subsl v 1 l h) ((xs.drop l).take (h - l)) := by
  have := RowV.sub hr h1 h2
  unfold IntRow
  have hl : ((xs.drop l).take (h - l)).length = h - l := by simp; omega
  rw [hl]
  simpa [encl, List.map_take, List.map_drop] using this
theorem IntRow.subL {k : IntKind} {xs : List Int} (hr : IntRow M k v xs) {l : Nat} (h2 : l ≤ xs.length) : IntRow M k (subsl v 1 l xs.length) (xs.drop l) := by
  have := hr.sub (Nat.le_refl _) h2
  rwa [List.take_of_length_le (by simp)] at this
theorem IntRow.subH {k : IntKind} {xs : List Int} (hr : IntRow M k v xs) {h : Nat} (h1 : h ≤ xs.length) : IntRow M k (subsl v 1 0 h) (xs.take h) := by
  have := hr.sub h1 (Nat.zero_le _)
  simpa using this
theorem chunk_sub {cs : List Value} {n i l m : Nat} (h : i < m) : chunk ((cs.drop (l * n)).take (m * n)) n i = chunk cs n (l + i) := by
  unfold chunk
  have h2 : (i + 1) * n ≤ m * n := Nat.mul_le_mul_right _ h
  rw [Nat.add_mul] at h2
  rw [List.drop_take, List.take_take, List.drop_drop, Nat.min_eq_left (by omega), Nat.add_mul]
theorem RowS.sub {α : Type} {s : Shape α} {xs : List α} (hr : RowS s M v xs) {l h : Nat} (h1 : h ≤ xs.length) (h2 : l ≤ h) : RowS s M (subsl v s.n l h) ((xs.drop l).take (h - l)) := by
  obtain ⟨cs, g1, g2⟩ := hr
  have hl : ((xs.drop l).take (h - l)).length = h - l := by simp; omega
  refine ⟨_, by rw [hl]; exact g1.sub h1 h2, fun i x hx => ?_⟩
  have hi : i < h - l := by
    rcases Nat.lt_or_ge i (h - l) with h' | h'
    · exact h'
    · rw [List.getElem?_eq_none (by omega)] at hx; cases hx
  rw [chunk_sub hi]
  refine g2 _ x ?_
  rw [List.getElem?_take_of_lt hi, List.getElem?_drop] at hx
  exact hx
theorem RowS.subL {α : Type} {s : Shape α} {xs : List α} (hr : RowS s M v xs) {l : Nat} (h2 : l ≤ xs.length) : RowS s M (subsl v s.n l xs.length) (xs.drop l) := by
  have := hr.sub (Nat.le_refl _) h2
  rwa [List.take_of_length_le (by simp)] at this
theorem RowS.subH {α : Type} {s : Shape α} {xs : List α} (hr : RowS s M v xs) {h : Nat} (h1 : h ≤ xs.length) : RowS s M (subsl v s.n 0 h) (xs.take h) := by
  have := hr.sub h1 (Nat.zero_le _)
  simpa using this
theorem RowS.V {α : Type} {s : Shape α} {xs : List α} (hr : RowS s M v xs) : ∃ cs, RowV M v s.n xs.length cs := ⟨_, hr.choose_spec.1⟩
/-! ### bytes and texts -/
theorem run_bytesStr {T2 : TypeId} {xs : List Int} {w : World} (hs : P.underlying T = some (.slice e)) (he : P.underlying e = some (.int .u8)) (hd : P.underlying T2 = some .string) (hr : IntRow (heapOf w) .u8 v xs) : (convert T T2 v).run P w = .ok (str (bytesL xs)) w := by
  obtain ⟨h0, a, c, rfl, hc, h3⟩ := hr
  have hstr : Value.string (strOfNums xs) = str (bytesL xs) := by simp [strOfNums, str, bytesL]
  rcases h3 with h3 | ⟨b, off, arr, t, z, rfl, e2, e3⟩
  · have : xs = [] := List.eq_nil_of_length_eq_zero h3
    subst this
    cases a with
    | none => exact (run_convert_bytes_nil w T e hs he 0 c T2 hd).trans rfl
    | some a =>
      obtain ⟨b, off, q⟩ := a
      rw [run_convert_bytes_string w T T2 e _ _ c hs he hd]
      rw [run_bytesToString w _ _ c [] (by simp [loadCells, loadCellsFrom])]
      rfl
  · rw [← hstr]
    exact run_convert_bytes_arg w T e hs he b off _ c xs rfl (fun i hi => by
      rw [cell_of (show w.heap[b]? = _ from e2)]
      exact e3 i _ (encl_get .u8 hi)) T2 hd
theorem q_bytesStr {T2 : TypeId} {xs : List Int} (hs : P.underlying T = some (.slice e)) (he : P.underlying e = some (.int .u8)) (hd : P.underlying T2 = some .string) (hr : ∀ w, Cls w0 I H w → IntRow (heapOf w) .u8 v xs) (ho : o.op = .convert T T2 x) (hx : ev S x = some v) : FQuiet P o w0 I S H (str (bytesL xs)) := fun ρ hρ w hc => .inl (by
  simp only [execOp, ho, hρ _ _ hx]
  exact val_run (run_bytesStr hs he hd (hr w hc)))

/-! ### small things -/
theorem p_min2 {ts : Array TypeId} {p q : Int} (ho : o.op = .call { callee := .builtin .min, args := #[x, y], argTypes := ts }) (hx : ev S x = some (.int k p)) (hy : ev S y = some (.int k2 q)) : FPure P o S (.int k (if q < p then q else p)) := fun ρ hρ w => by
  obtain ⟨cs, h⟩ := run_builtin (P := P) (ρ := ρ) (vs := #[.int k p, .int k2 q]) ho (by simp [hρ _ _ hx, hρ _ _ hy]) w
  rw [h]
  exact val_run (run_min_int2 (P := P) (w := w) _ _ _ _ _ _)
theorem p_max2 {ts : Array TypeId} {p q : Int} (ho : o.op = .call { callee := .builtin .max, args := #[x, y], argTypes := ts }) (hx : ev S x = some (.int k p)) (hy : ev S y = some (.int k2 q)) : FPure P o S (.int k (if p < q then q else p)) := fun ρ hρ w => by
  obtain ⟨cs, h⟩ := run_builtin (P := P) (ρ := ρ) (vs := #[.int k p, .int k2 q]) ho (by simp [hρ _ _ hx, hρ _ _ hy]) w
  rw [h]
  exact val_run (run_max_int2 (P := P) (w := w) _ _ _ _ _ _)
theorem sl_cells {v : Value} {n : Nat} (h : ∃ a c, v = .slice a n c) : v.cells = #[v] := by obtain ⟨a, c, rfl⟩ := h; rfl
theorem sl_one {v : Value} {n : Nat} (h : ∃ a c, v = .slice a n c) : OneCell v := by obtain ⟨a, c, rfl⟩ := h; trivial
theorem f_boxSl {t : TypeId} {x : Operand} {v : Value} (hv : v.cells = #[v]) (ho : o.op = .box t x) (hx : ev S x = some v) : FNew P o S (.cells #[v] t) (fun b => ptr b 0) := by
  have := f_box (P := P) (S := S) ho hx
  rwa [hv] at this
/-- The same, in these words. -/
theorem RowS.strs {xs : List (List UInt8)} (h : RowS Sh.str M v xs) : RowV M v 1 xs.length (xs.map str) := by
  obtain ⟨cs, h1, h2⟩ := h
  have : cs = xs.map str := by
    apply List.ext_getElem?
    intro i
    rw [List.getElem?_map]
    cases hx : xs[i]? with
    | none =>
      have := h1.1
      simp only [List.getElem?_eq_none_iff] at hx ⊢
      have h3 : cs.length = xs.length * 1 := h1.1
      simp; omega
    | some s =>
      have h3 : chunk cs 1 i = [str s] := h2 i s hx
      have := chunk_get (cs := cs) (n := 1) (i := i) (j := 0) (q := str s) (by rw [h3]; rfl)
      simpa using this
  rw [← this]; exact h1
/-! ### maps with numbers -/
end
end Go.HW
end

section
namespace Go.HW
open Go Go.RowKit
set_option linter.unusedVariables false
set_option linter.unusedSimpArgs false

section
variable {P : Program} {o : Oper} {S : Slots} {w0 : World} {I M M0 : Mem} {H A J : Heap} {R : Ending → World → Prop} {N : Nat} {f : FuncId} {K : List Item} {ops : Array Oper} {lab : Lab} {ids : Nat → Option Nat} {l : List Nat} {i d : Nat}

theorem chunk1 {cs : List Value} {i : Nat} {v : Value} (h : chunk cs 1 i = [v]) : cs[i]? = some v := by
  have := chunk_get (cs := cs) (n := 1) (i := i) (j := 0) (q := v) (by rw [h]; rfl)
  simpa using this
theorem OwnS.row {α : Type} {s : Shape α} {v : Value} {cur : Array Value} {xs : List α} {e i : Nat} (h : OwnS s M v cur xs) {w : World} (he : Ext M (heapOf w)) (hc : Cls w0 I H w) (hH : H[i]? = Option.some (v.ownBlock, .cells cur e (0, 0))) : RowS s (heapOf w) v xs := by
  obtain ⟨cs, h1, h2⟩ := h
  exact ⟨cs, h1.row hc (List.mem_of_getElem? hH), fun i x hx => s.mono he (h2 i x hx)⟩
theorem OwnS.strs {v : Value} {cur : Array Value} {xs : List (List UInt8)} (h : OwnS Sh.str M v cur xs) : OwnV v cur 1 xs.length (xs.map str) := by
  obtain ⟨cs, h1, h2⟩ := h
  have : cs = xs.map str := by
    apply List.ext_getElem?
    intro i
    rw [List.getElem?_map]
    cases hx : xs[i]? with
    | none =>
      have h3 : cs.length = xs.length * 1 := h1.1
      simp only [List.getElem?_eq_none_iff] at hx
      simp; omega
    | some s =>
      have h3 : chunk cs 1 i = [str s] := h2 i s hx
      simpa using chunk1 h3
  rw [← this]; exact h1
theorem f_buildS {t e bytes n sz : Nat} {z : Value} {cells : Array Value} {parts : Array (Nat × Operand)} {vs : List (Nat × Value)} (E : Elem P t e sz bytes z) (hn : Nat.ble (n * sz) 16777216 = true) (h0 : Nat.blt 0 n = true)
    (hf : Instr.fill (fun i => some (i * sz, sz)) ((Array.range (n * sz)).map (z.cells[· % z.cells.size]!)) vs = some cells) (ho : o.op = .buildSlice t n parts) (hp : ∀ ρ, Val S ρ → (parts.map fun p => (p.1, ρ p.2)).toList = vs) :
    FNew P o S (.cells cells e) (fun b => .slice (some ⟨b, 0, none⟩) n n) := fun ρ hρ w => by
  obtain ⟨i, hi, hz, hs, hbb⟩ := E.hi
  have h1 := Nat.le_of_ble_eq_true hn
  have h2 : 0 < n := by simpa [Nat.blt_eq] using h0
  simp only [execOp, ho]
  refine val_run ?_
  refine run_buildSlice w t e n _ _ i _ E.ht hi hz (by rw [hs]; omega) (by rw [hs]; have := Nat.mul_pos h2 E.hs; omega) ?_
  rw [hs, ← hf, ← hp ρ hρ]

/-- Some of what is owned, in another order. -/
def pick (is : List Nat) (H : Heap) : Heap := is.filterMap fun i => H[i]?
theorem pick_nodup {H : Heap} (hn : (H.filterMap Prod.fst).Nodup) : ∀ {is : List Nat}, is.Nodup → ((pick is H).filterMap Prod.fst).Nodup
  | [], _ => List.nodup_nil
  | i :: is, h => by
    obtain ⟨h1, h2⟩ := List.nodup_cons.1 h
    have ih := pick_nodup hn h2
    unfold pick at ih ⊢
    rw [List.filterMap_cons]
    cases hi : H[i]? with
    | none => exact ih
    | some p =>
      obtain ⟨r, o⟩ := p
      cases r with
      | none => simpa using ih
      | some b =>
        simp only [List.filterMap_cons]
        refine List.nodup_cons.2 ⟨fun hm => ?_, ih⟩
        obtain ⟨u, hu⟩ := mem_ids.1 hm
        obtain ⟨j, hj, he⟩ := List.mem_filterMap.1 hu
        have := ids_unique hn hi he
        subst this
        exact h1 hj
theorem Cls.pick {w : World} (is : List Nat) (hn : is.Nodup) (hc : Cls w0 I H w) : Cls w0 I (HW.pick is H) w :=
  ⟨hc.os, hc.tape, hc.output, hc.size, hc.imm, fun b o hm => by
    obtain ⟨i, _, he⟩ := List.mem_filterMap.1 hm
    exact hc.own b o (List.mem_of_getElem? he), fun b o hm => by
    obtain ⟨i, _, he⟩ := List.mem_filterMap.1 hm
    exact hc.disj b o (List.mem_of_getElem? he), pick_nodup hc.nodup hn⟩
theorem TT.pick (is : List Nat) (hn : is.Nodup) (h : TT P f R N w0 I K S (HW.pick is H)) : TT P f R N w0 I K S H := fun a w ha hc => h a w ha (hc.pick is hn)
theorem TT.goto {l : Nat} {K' : List Item} (he : gotoIn l K = some K') (h : TT P f R N w0 I K' S H) : TT P f R N w0 I (.code (.goto l) :: K) S H := fun a w ha hc => T.goto he (h a w ha hc)
theorem TT.scope {c : Code} (h : TT P f R N w0 I (.code c :: .inScope c :: K) S H) : TT P f R N w0 I (.code (.scope c) :: K) S H := fun a w ha hc => T.scope (fun b cs => step_scope) (h a w ha hc)
end
end Go.HW
end

section
namespace Go.HW
open Go Go.RowKit
set_option linter.unusedVariables false
set_option linter.unusedSimpArgs false

/-! ### going over a map of numbers, in whatever order -/
/-- The iterator's block. -/
def iobj (bm n : Nat) (seen : Array Nat) : Obj := .mapIter (some bm) n seen n

section
variable {P : Program} {o : Oper} {S : Slots} {w0 : World} {I : Mem} {H : Heap} {R : Ending → World → Prop} {N : Nat} {f : FuncId} {K : List Item} {ops : Array Oper} {lab : Lab} {ids : Nat → Option Nat} {l : List Nat} {i d : Nat}
theorem DL.range {t kt et : TypeId} {x : Operand} {bm j : Nat} {k : IntKind} {m : List (Int × Value)} (hm : ∀ w, (underlying t).run P w = .ok (.map kt et) w) (hH : H[j]? = some (some bm, mobj k m)) (hi : ops[i]? = some o) (hw : Wn ops S o true) (hd : o.dst = some d) (hN : Nat.blt d N = true) (hk : (lab i).1 = .keep)
    (ho : o.op = .range t x) (hx : ev S x = some (.map (some bm))) (h : ∀ b, DL P f R N w0 I K ops lab ids l ((d, ptr b 0) :: S) ((some b, iobj bm m.length #[]) :: H)) : DL P f R N w0 I K ops lab ids (i :: l) S H :=
  DL.keep (X := Nat) (u := fun b => ptr b 0) (H' := fun b => (some b, iobj bm m.length #[]) :: H) (fun _ p hp => List.mem_cons_of_mem _ hp) hi hw hd hN hk (fun ρ hρ w hc => .inl ⟨w.heap.size, w.alloc (iobj bm m.length #[]), by
    simp only [execOp, ho, hρ _ _ hx]
    refine val_run ?_
    unfold Instr.range
    have hb := hc.own bm _ (List.mem_of_getElem? hH)
    refine (run_of_bind (hm w)).trans ?_
    refine (run_of_bind (run_getObj hb)).trans ?_
    rfl, hc.alloc _⟩) h
end

/-! ### shorter words -/
abbrev kk : Kd × Option Nat := (.keep, none)
section
variable {P : Program} {f : FuncId} {R : Ending → World → Prop} {N : Nat} {w0 : World} {I : Mem} {k : List Item} {S : Slots} {H : Heap}
theorem DL.mv {ops : Array Oper} {lab : Lab} {ids : Nat → Option Nat} {i : Nat} {l : List Nat} {x : Operand} (d : Nat) (v : Value) (hc : chk ops N lab isPure i d = true) (ho : (opAt ops i).op = .move x) (hx : ev S x = some v) (h : DL P f R N w0 I k ops lab ids l ((d, v) :: S) H) : DL P f R N w0 I k ops lab ids (i :: l) S H :=
  DL.pu d v hc (p_move ho hx) h
end
end Go.HW
end

section
namespace Go.HW
open Go Go.RowKit
set_option linter.unusedVariables false
set_option linter.unusedSimpArgs false

/-! ### pointers to structs and arrays -/
section
variable {P : Program} {o : Oper} {S : Slots} {w0 : World} {I : Nat → Option Obj} {H : Heap}
theorem p_nilCheck {x : Operand} {b off : Nat} (ho : o.op = .nilCheck x) (hx : ev S x = some (ptr b off)) : FPure P o S (ptr b off) := fun ρ hρ w => by
  simp only [execOp, ho, hρ _ _ hx]; rfl
theorem idxO (off : Nat) (i : Int) : off + i.toNat * 1 = off + i.toNat := by omega
theorem p_ixO {t e : TypeId} {x y : Operand} {b off n : Nat} {k : IntKind} {i : Int} (hu : ∀ w, (underlying t).run P w = .ok (.array n e) w) (hs : ∀ w, (sizeOf e).run P w = .ok 1 w) (h0 : 0 ≤ i) (h1 : i < n)
    (ho : o.op = .indexAddr t x y) (hx : ev S x = some (ptr b off)) (hy : ev S y = some (.int k i)) : FPure P o S (ptr b (off + i.toNat)) := by
  have := p_indexAddr (P := P) hu hs h0 h1 ho hx hy
  rwa [idxO] at this
theorem i_loadBoxO {t t' : TypeId} {x : Operand} {b off : Nat} {c : Array Value} {v : Value} {z : Nat × Nat} (hb : I b = some (.cells c t' z)) (hv : c[off]? = some v) (ha : ∀ w, (isAgg t).run P w = .ok false w) (ho : o.op = .load t x) (hx : ev S x = some (ptr b off)) : FImm P o I S v := fun ρ hρ w hi => by
  simp only [execOp, ho, hρ _ _ hx]
  refine val_run ?_
  show ((isAgg t).bind _).run P w = _
  rw [run_of_bind (ha w)]
  exact run_load (by rw [cell_of (hi b _ hb), hv])
end
end Go.HW
end

section
namespace Go.HW
open Go Go.RowKit
set_option linter.unusedVariables false
set_option linter.unusedSimpArgs false

/-! ### append(x, make([]T, m)...) -/
section
variable {P : Program} (w : World)
end
section
variable {P : Program} {o : Oper} {S : Slots} {w0 : World} {I : Nat → Option Obj} {H : Heap}
variable {R : Ending → World → Prop} {N : Nat} {f : FuncId} {K : List Item} {ops : Array Oper} {lab : Lab} {ids : Nat → Option Nat} {l : List Nat} {i d : Nat}
theorem DL.newO {cells : List Value} {e n : Nat} (hn : cells.length = n) (hm : n ≤ maxLen) (hi : ops[i]? = some o) (hw : Wn ops S o true) (hd : o.dst = some d) (hN : Nat.blt d N = true) (hk : (lab i).1 = .alloc)
    (hp : FNew P o S (.cells cells.toArray e) (fun b => .slice (some ⟨b, 0, none⟩) n n)) (h : ∀ v cur, OwnV v cur 1 n cells → DL P f R N w0 I K ops lab ids l ((d, v) :: S) ((v.ownBlock, .cells cur e (0, 0)) :: H)) : DL P f R N w0 I K ops lab ids (i :: l) S H :=
  DL.new hi hw hd hN hk hp fun b hb => h (.slice (some ⟨b, 0, none⟩) n n) cells.toArray (OwnV.fresh (Nat.le_refl _) hm (by simp [hn]) (by rw [List.take_of_length_le]; simp [hn]) (by omega))
/-- a part of a block's cells -/
theorem f_loadSubA {t t' : TypeId} {x : Operand} {b j n off : Nat} {c : Array Value} {vs : List Value} (ha : ∀ w, (isAgg t).run P w = .ok true w) (hs : ∀ w, (sizeOf t).run P w = .ok n w) (hH : H[j]? = some (some b, .cells c t' (0, 0))) (hl : vs.length = n) (hv : (c.toList.drop off).take n = vs)
    (ho : o.op = .load t x) (hx : ev S x = some (ptr b off)) : FQuiet P o w0 I S H (.agg vs.toArray) := fun ρ hρ w hc => .inl (by
  simp only [execOp, ho, hρ _ _ hx]
  refine val_run ?_
  have hb := hc.own b _ (List.mem_of_getElem? hH)
  show ((isAgg t).bind _).run P w = _
  rw [run_of_bind (ha w)]
  show ((sizeOf t).bind _).run P w = _
  rw [run_of_bind (hs w)]
  refine (run_of_bind (run_loadCells (b := b) (off := off) (vs := vs) hl (fun k v hk => ?_))).trans rfl
  rw [cell_of hb]
  rw [← hv] at hk
  have hkn : k < n := by
    rcases Nat.lt_or_ge k n with h | h
    · exact h
    · rw [List.getElem?_eq_none (by simp; omega)] at hk; cases hk
  rw [List.getElem?_take_of_lt hkn, List.getElem?_drop] at hk
  simpa using hk)
theorem b_loadSubA {t t' : TypeId} {x : Operand} {b n off : Nat} {c : Array Value} {vs : List Value} (ha : ∀ w, (isAgg t).run P w = .ok true w) (hs : ∀ w, (sizeOf t).run P w = .ok n w) (hl : vs.length = n) (hv : (c.toList.drop off).take n = vs)
    (ho : o.op = .load t x) (hx : ev S x = some (ptr b off)) : ∀ ρ, Val S ρ → ∀ w, w.heap[b]? = some (.cells c t' (0, 0)) → (execOp ρ o).run P w = .ok (.value (.agg vs.toArray)) w := fun ρ hρ w hb => by
  simp only [execOp, ho, hρ _ _ hx]
  refine val_run ?_
  show ((isAgg t).bind _).run P w = _
  rw [run_of_bind (ha w)]
  show ((sizeOf t).bind _).run P w = _
  rw [run_of_bind (hs w)]
  refine (run_of_bind (run_loadCells (b := b) (off := off) (vs := vs) hl (fun k v hk => ?_))).trans rfl
  rw [cell_of hb]
  rw [← hv] at hk
  have hkn : k < n := by
    rcases Nat.lt_or_ge k n with h | h
    · exact h
    · rw [List.getElem?_eq_none (by simp; omega)] at hk; cases hk
  rw [List.getElem?_take_of_lt hkn, List.getElem?_drop] at hk
  simpa using hk
theorem OwnS.V {α : Type} {s : Shape α} {M : Mem} {v : Value} {cur : Array Value} {xs : List α} (h : OwnS s M v cur xs) : ∃ cs, OwnV v cur s.n xs.length cs := by obtain ⟨cs, h1, _⟩ := h; exact ⟨cs, h1⟩
end
end Go.HW
end

section
namespace Go.HW
open Go Go.RowKit
set_option linter.unusedVariables false
set_option linter.unusedSimpArgs false
section
variable {P : Program} {o : Oper} {S : Slots} {w0 : World} {I M M0 : Mem} {H A J : Heap} {R : Ending → World → Prop} {N : Nat} {f : FuncId} {K : List Item} {ops : Array Oper} {lab : Lab} {ids : Nat → Option Nat} {l : List Nat} {i d : Nat}

end
end Go.HW
end
