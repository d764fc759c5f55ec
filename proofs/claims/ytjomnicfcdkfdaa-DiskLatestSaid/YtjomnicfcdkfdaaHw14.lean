import Derived.Test.YtjomnicfcdkfdaaHw13
import Derived.Laws.Strings
import Derived.Laws.Concat
import Derived.Laws.Small
import Derived.Laws.BytesArg
import Derived.Laws.Cover1
import Derived.Lib.ConvBytes
namespace Go.HW
open Go Go.RowKit
set_option linter.unusedVariables false
set_option linter.unusedSimpArgs false

/-! ### texts -/
/-- Numbers as bytes. -/
def bytesL (xs : List Int) : List UInt8 := xs.map fun n => UInt8.ofNat n.toNat
section
variable {P : Program} {o : Oper} {S : Slots} {w0 : World} {I : Mem} {H : Heap} {T U : TypeId} {x y : Operand} {a b : List UInt8}
theorem p_str {op : BinOp} {v : Value} (hr : ∀ w, (binOp op T (str a) (str b)).run P w = .ok v w) (ho : o.op = .binOp op T x y U) (hx : ev S x = some (str a)) (hy : ev S y = some (str b)) : FPure P o S v := fun ρ hρ w => by
  simp only [execOp, ho, hρ _ _ hx, hρ _ _ hy]
  refine val_run ?_
  have hg : (eqGuard op T x y (str a) (str b)).run P w = .ok () w := by
    cases op <;> rfl
  exact (run_of_bind hg).trans (hr w)
theorem p_strNe (ho : o.op = .binOp .neq T x y U) (hx : ev S x = some (str a)) (hy : ev S y = some (str b)) : FPure P o S (.bool (!(a == b))) := p_str (fun w => by rw [str, str, binOp_string_neq]; simp) ho hx hy
/-! ### parts of slices and of texts -/
theorem run_bound {v : Int} {k : IntKind} {y : Nat} {c : BoundsCode} {w : World} (h0 : 0 ≤ v) (h1 : v ≤ (y : Int)) : (Instr.sliceBound (.int k v) y c).run P w = .ok v.toNat w := by
  unfold Instr.sliceBound
  refine (run_of_bind (show (asIntOf (.int k v)).run P w = .ok (k, v) w from rfl)).trans ?_
  simp only [if_pos (And.intro h0 h1)]
  rfl
theorem run_bounds {s : Bool} {n c : Nat} {w : World} (lo hi : Option Value) (l h : Nat) (hh : (hi = none ∧ h = n) ∨ ∃ k, hi = some (.int k (h : Int))) (hl : (lo = none ∧ l = 0) ∨ ∃ k, lo = some (.int k (l : Int))) (h1 : h ≤ c) (h2 : l ≤ h) : (Instr.sliceBounds s n c lo hi none).run P w = .ok (l, h, c) w := by
  unfold Instr.sliceBounds
  refine (run_of_bind (a := c) (w' := w) rfl).trans ?_
  have hlo : ∀ (cd : BoundsCode) (f : Nat → Sem (Nat × Nat × Nat)), (match lo with | some v => (Instr.sliceBound v h cd).bind f | none => (Pure.pure 0 : Sem Nat).bind f).run P w = (f l).run P w := fun cd f => by
    rcases hl with ⟨rfl, rfl⟩ | ⟨k, rfl⟩
    · rfl
    · refine (run_of_bind (run_bound (by omega) (by omega))).trans ?_
      simp
  rcases hh with ⟨rfl, rfl⟩ | ⟨k, rfl⟩
  · refine (run_of_bind (a := h) (w' := w) rfl).trans ?_
    exact (hlo _ _).trans rfl
  · refine (run_of_bind (run_bound (by omega) (by omega))).trans ?_
    simp only [Int.toNat_natCast]
    exact (hlo _ _).trans rfl
/-- A part of a slice. -/
def subsl (v : Value) (sz l h : Nat) : Value := match v with
  | .slice a n c => .slice (if c = l then a else a.map (·.add (l * sz))) (h - l) (c - l)
  | v => v
theorem RowV.sub {M : Mem} {v : Value} {sz n : Nat} {cs : List Value} (hr : RowV M v sz n cs) {l h : Nat} (h1 : h ≤ n) (h2 : l ≤ h) : RowV M (subsl v sz l h) sz (h - l) ((cs.drop (l * sz)).take ((h - l) * sz)) := by
  obtain ⟨h0, a, c, rfl, hc, h3⟩ := hr
  have hmul : h * sz ≤ n * sz := Nat.mul_le_mul_right _ h1
  have hmul2 : l * sz ≤ h * sz := Nat.mul_le_mul_right _ h2
  refine ⟨by simp only [List.length_take, List.length_drop, h0, Nat.sub_mul]; omega, _, _, rfl, by omega, ?_⟩
  rcases h3 with rfl | ⟨b, off, arr, t, z, rfl, e2, e3⟩
  · left; omega
  · by_cases hz : h - l = 0
    · exact .inl hz
    · right
      have : c ≠ l := by omega
      refine ⟨b, off + l * sz, arr, t, z, ?_, e2, fun i q hq => ?_⟩
      · simp [this, add_none]
      · have hi : i < (h - l) * sz := by
          rcases Nat.lt_or_ge i ((h - l) * sz) with h' | h'
          · exact h'
          · rw [List.getElem?_eq_none (by simp; omega)] at hq; cases hq
        rw [List.getElem?_take_of_lt hi, List.getElem?_drop] at hq
        rw [Nat.add_assoc]
        exact e3 _ q hq
variable {M : Mem} {v : Value} {sz n e : Nat} {cs : List Value} {i j : Int} {k k2 : IntKind} {z : Operand}
theorem IntRow.sub {k : IntKind} {xs : List Int} (hr : IntRow M k v xs) {l h : Nat} (h1 : h ≤ xs.length) (h2 : l ≤ h) : IntRow M k (subsl v 1 l h) ((xs.drop l).take (h - l)) := by
  have := RowV.sub hr h1 h2
  unfold IntRow
  have hl : ((xs.drop l).take (h - l)).length = h - l := by simp; omega
  rw [hl]
  simpa [encl, List.map_take, List.map_drop] using this
theorem IntRow.subL {k : IntKind} {xs : List Int} (hr : IntRow M k v xs) {l : Nat} (h2 : l ≤ xs.length) : IntRow M k (subsl v 1 l xs.length) (xs.drop l) := by
  have := hr.sub (Nat.le_refl _) h2
  rwa [List.take_of_length_le (by simp)] at this
theorem IntRow.subH {k : IntKind} {xs : List Int} (hr : IntRow M k v xs) {h : Nat} (h1 : h ≤ xs.length) : IntRow M k (subsl v 1 0 h) (xs.take h) := by
  have := hr.sub h1 (Nat.zero_le _)
  simpa using this
theorem chunk_sub {cs : List Value} {n i l m : Nat} (h : i < m) : chunk ((cs.drop (l * n)).take (m * n)) n i = chunk cs n (l + i) := by
  unfold chunk
  have h2 : (i + 1) * n ≤ m * n := Nat.mul_le_mul_right _ h
  rw [Nat.add_mul] at h2
  rw [List.drop_take, List.take_take, List.drop_drop, Nat.min_eq_left (by omega), Nat.add_mul]
theorem RowS.sub {α : Type} {s : Shape α} {xs : List α} (hr : RowS s M v xs) {l h : Nat} (h1 : h ≤ xs.length) (h2 : l ≤ h) : RowS s M (subsl v s.n l h) ((xs.drop l).take (h - l)) := by
  obtain ⟨cs, g1, g2⟩ := hr
  have hl : ((xs.drop l).take (h - l)).length = h - l := by simp; omega
  refine ⟨_, by rw [hl]; exact g1.sub h1 h2, fun i x hx => ?_⟩
  have hi : i < h - l := by
    rcases Nat.lt_or_ge i (h - l) with h' | h'
    · exact h'
    · rw [List.getElem?_eq_none (by omega)] at hx; cases hx
  rw [chunk_sub hi]
  refine g2 _ x ?_
  rw [List.getElem?_take_of_lt hi, List.getElem?_drop] at hx
  exact hx
theorem RowS.subL {α : Type} {s : Shape α} {xs : List α} (hr : RowS s M v xs) {l : Nat} (h2 : l ≤ xs.length) : RowS s M (subsl v s.n l xs.length) (xs.drop l) := by
  have := hr.sub (Nat.le_refl _) h2
  rwa [List.take_of_length_le (by simp)] at this
theorem RowS.subH {α : Type} {s : Shape α} {xs : List α} (hr : RowS s M v xs) {h : Nat} (h1 : h ≤ xs.length) : RowS s M (subsl v s.n 0 h) (xs.take h) := by
  have := hr.sub h1 (Nat.zero_le _)
  simpa using this
theorem RowS.V {α : Type} {s : Shape α} {xs : List α} (hr : RowS s M v xs) : ∃ cs, RowV M v s.n xs.length cs := ⟨_, hr.choose_spec.1⟩
/-! ### bytes and texts -/
theorem run_bytesStr {T2 : TypeId} {xs : List Int} {w : World} (hs : P.underlying T = some (.slice e)) (he : P.underlying e = some (.int .u8)) (hd : P.underlying T2 = some .string) (hr : IntRow (heapOf w) .u8 v xs) : (convert T T2 v).run P w = .ok (str (bytesL xs)) w := by
  obtain ⟨h0, a, c, rfl, hc, h3⟩ := hr
  have hstr : Value.string (strOfNums xs) = str (bytesL xs) := by simp [strOfNums, str, bytesL]
  rcases h3 with h3 | ⟨b, off, arr, t, z, rfl, e2, e3⟩
  · have : xs = [] := List.eq_nil_of_length_eq_zero h3
    subst this
    cases a with
    | none => exact (run_convert_bytes_nil w T e hs he 0 c T2 hd).trans rfl
    | some a =>
      obtain ⟨b, off, q⟩ := a
      rw [run_convert_bytes_string w T T2 e _ _ c hs he hd]
      rw [run_bytesToString w _ _ c [] (by simp [loadCells, loadCellsFrom])]
      rfl
  · rw [← hstr]
    exact run_convert_bytes_arg w T e hs he b off _ c xs rfl (fun i hi => by
      rw [cell_of (show w.heap[b]? = _ from e2)]
      exact e3 i _ (encl_get .u8 hi)) T2 hd
theorem q_bytesStr {T2 : TypeId} {xs : List Int} (hs : P.underlying T = some (.slice e)) (he : P.underlying e = some (.int .u8)) (hd : P.underlying T2 = some .string) (hr : ∀ w, Cls w0 I H w → IntRow (heapOf w) .u8 v xs) (ho : o.op = .convert T T2 x) (hx : ev S x = some v) : FQuiet P o w0 I S H (str (bytesL xs)) := fun ρ hρ w hc => .inl (by
  simp only [execOp, ho, hρ _ _ hx]
  exact val_run (run_bytesStr hs he hd (hr w hc)))

/-! ### small things -/
theorem sl_cells {v : Value} {n : Nat} (h : ∃ a c, v = .slice a n c) : v.cells = #[v] := by obtain ⟨a, c, rfl⟩ := h; rfl
theorem sl_one {v : Value} {n : Nat} (h : ∃ a c, v = .slice a n c) : OneCell v := by obtain ⟨a, c, rfl⟩ := h; trivial
theorem f_boxSl {t : TypeId} {x : Operand} {v : Value} (hv : v.cells = #[v]) (ho : o.op = .box t x) (hx : ev S x = some v) : FNew P o S (.cells #[v] t) (fun b => ptr b 0) := by
  have := f_box (P := P) (S := S) ho hx
  rwa [hv] at this
/-- The same, in these words. -/
theorem RowS.strs {xs : List (List UInt8)} (h : RowS Sh.str M v xs) : RowV M v 1 xs.length (xs.map str) := by
  obtain ⟨cs, h1, h2⟩ := h
  have : cs = xs.map str := by
    apply List.ext_getElem?
    intro i
    rw [List.getElem?_map]
    cases hx : xs[i]? with
    | none =>
      have := h1.1
      simp only [List.getElem?_eq_none_iff] at hx ⊢
      have h3 : cs.length = xs.length * 1 := h1.1
      simp; omega
    | some s =>
      have h3 : chunk cs 1 i = [str s] := h2 i s hx
      have := chunk_get (cs := cs) (n := 1) (i := i) (j := 0) (q := str s) (by rw [h3]; rfl)
      simpa using this
  rw [← this]; exact h1
/-! ### maps with numbers -/
end
end Go.HW
