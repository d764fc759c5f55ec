import Derived.Test.YtfcedjmgddloiaaDoorHw13
import Derived.Laws.Strings
import Derived.Laws.Concat
import Derived.Laws.Small
import Derived.Laws.BytesArg
import Derived.Laws.Cover1
import Derived.Lib.ConvBytes
namespace Go.HW
open Go Go.RowKit
set_option linter.unusedVariables false
set_option linter.unusedSimpArgs false

/-! ### texts -/
section
variable {P : Program} {o : Oper} {S : Slots} {w0 : World} {I : Mem} {H : Heap} {T U : TypeId} {x y : Operand} {a b : List UInt8}
/-! ### parts of slices and of texts -/
/-- A part of a slice. -/
def subsl (v : Value) (sz l h : Nat) : Value := match v with
  | .slice a n c => .slice (if c = l then a else a.map (·.add (l * sz))) (h - l) (c - l)
  | v => v
theorem RowV.sub {M : Mem} {v : Value} {sz n : Nat} {cs : List Value} (hr : RowV M v sz n cs) {l h : Nat} (h1 : h ≤ n) (h2 : l ≤ h) : RowV M (subsl v sz l h) sz (h - l) ((cs.drop (l * sz)).take ((h - l) * sz)) := by
  obtain ⟨h0, a, c, rfl, hc, h3⟩ := hr
  have hmul : h * sz ≤ n * sz := Nat.mul_le_mul_right _ h1
  have hmul2 : l * sz ≤ h * sz := Nat.mul_le_mul_right _ h2
  refine ⟨by simp only [List.length_take, List.length_drop, h0, Nat.sub_mul]; omega, _, _, rfl, by omega, ?_⟩
  rcases h3 with rfl | ⟨b, off, arr, t, z, rfl, e2, e3⟩
  · left; omega
  · by_cases hz : h - l = 0
    · exact .inl hz
    · right
      have : c ≠ l := by omega
      refine ⟨b, off + l * sz, arr, t, z, ?_, e2, fun i q hq => ?_⟩
      · simp [this, add_none]
      · have hi : i < (h - l) * sz := by
          rcases Nat.lt_or_ge i ((h - l) * sz) with h' | h'
          · exact h'
          · rw [List.getElem?_eq_none (by simp; omega)] at hq; cases hq
        rw [List.getElem?_take_of_lt hi, List.getElem?_drop] at hq
        rw [Nat.add_assoc]
        exact e3 _ q hq
variable {M : Mem} {v : Value} {sz n e : Nat} {cs : List Value} {i j : Int} {k k2 : IntKind} {z : Operand}
theorem IntRow.sub {k : IntKind} {xs : List Int} (hr : IntRow M k v xs) {l h : Nat} (h1 : h ≤ xs.length) (h2 : l ≤ h) : IntRow M k (subsl v 1 l h) ((xs.drop l).take (h - l)) := by
  have := RowV.sub hr h1 h2
  unfold IntRow
  have hl : ((xs.drop l).take (h - l)).length = h - l := by simp; omega
  rw [hl]
  simpa [encl, List.map_take, List.map_drop] using this
theorem IntRow.subL {k : IntKind} {xs : List Int} (hr : IntRow M k v xs) {l : Nat} (h2 : l ≤ xs.length) : IntRow M k (subsl v 1 l xs.length) (xs.drop l) := by
  have := hr.sub (Nat.le_refl _) h2
  rwa [List.take_of_length_le (by simp)] at this
theorem IntRow.subH {k : IntKind} {xs : List Int} (hr : IntRow M k v xs) {h : Nat} (h1 : h ≤ xs.length) : IntRow M k (subsl v 1 0 h) (xs.take h) := by
  have := hr.sub h1 (Nat.zero_le _)
  simpa using this
theorem chunk_sub {cs : List Value} {n i l m : Nat} (h : i < m) : chunk ((cs.drop (l * n)).take (m * n)) n i = chunk cs n (l + i) := by
  unfold chunk
  have h2 : (i + 1) * n ≤ m * n := Nat.mul_le_mul_right _ h
  rw [Nat.add_mul] at h2
  rw [List.drop_take, List.take_take, List.drop_drop, Nat.min_eq_left (by omega), Nat.add_mul]
theorem RowS.sub {α : Type} {s : Shape α} {xs : List α} (hr : RowS s M v xs) {l h : Nat} (h1 : h ≤ xs.length) (h2 : l ≤ h) : RowS s M (subsl v s.n l h) ((xs.drop l).take (h - l)) := by
  obtain ⟨cs, g1, g2⟩ := hr
  have hl : ((xs.drop l).take (h - l)).length = h - l := by simp; omega
  refine ⟨_, by rw [hl]; exact g1.sub h1 h2, fun i x hx => ?_⟩
  have hi : i < h - l := by
    rcases Nat.lt_or_ge i (h - l) with h' | h'
    · exact h'
    · rw [List.getElem?_eq_none (by omega)] at hx; cases hx
  rw [chunk_sub hi]
  refine g2 _ x ?_
  rw [List.getElem?_take_of_lt hi, List.getElem?_drop] at hx
  exact hx
theorem RowS.subL {α : Type} {s : Shape α} {xs : List α} (hr : RowS s M v xs) {l : Nat} (h2 : l ≤ xs.length) : RowS s M (subsl v s.n l xs.length) (xs.drop l) := by
  have := hr.sub (Nat.le_refl _) h2
  rwa [List.take_of_length_le (by simp)] at this
theorem RowS.subH {α : Type} {s : Shape α} {xs : List α} (hr : RowS s M v xs) {h : Nat} (h1 : h ≤ xs.length) : RowS s M (subsl v s.n 0 h) (xs.take h) := by
  have := hr.sub h1 (Nat.zero_le _)
  simpa using this
theorem RowS.V {α : Type} {s : Shape α} {xs : List α} (hr : RowS s M v xs) : ∃ cs, RowV M v s.n xs.length cs := ⟨_, hr.choose_spec.1⟩
/-! ### bytes and texts -/
/-! ### small things -/
theorem p_min2 {ts : Array TypeId} {p q : Int} (ho : o.op = .call { callee := .builtin .min, args := #[x, y], argTypes := ts }) (hx : ev S x = some (.int k p)) (hy : ev S y = some (.int k2 q)) : FPure P o S (.int k (if q < p then q else p)) := fun ρ hρ w => by
  obtain ⟨cs, h⟩ := run_builtin (P := P) (ρ := ρ) (vs := #[.int k p, .int k2 q]) ho (by simp [hρ _ _ hx, hρ _ _ hy]) w
  rw [h]
  exact val_run (run_min_int2 (P := P) (w := w) _ _ _ _ _ _)
/-- The same, in these words. -/
theorem RowS.strs {xs : List (List UInt8)} (h : RowS Sh.str M v xs) : RowV M v 1 xs.length (xs.map str) := by
  obtain ⟨cs, h1, h2⟩ := h
  have : cs = xs.map str := by
    apply List.ext_getElem?
    intro i
    rw [List.getElem?_map]
    cases hx : xs[i]? with
    | none =>
      have := h1.1
      simp only [List.getElem?_eq_none_iff] at hx ⊢
      have h3 : cs.length = xs.length * 1 := h1.1
      simp; omega
    | some s =>
      have h3 : chunk cs 1 i = [str s] := h2 i s hx
      have := chunk_get (cs := cs) (n := 1) (i := i) (j := 0) (q := str s) (by rw [h3]; rfl)
      simpa using this
  rw [← this]; exact h1
/-! ### maps with numbers -/
theorem f_lookupOk {t kt e : TypeId} {k : IntKind} {x y : Operand} {b j : Nat} {a : Int} {l : List (Int × Value)} {z : Value} (hm : ∀ w, (underlying t).run P w = .ok (.map kt e) w) (hk : ∀ w, (underlying kt).run P w = .ok (.int k) w) (hz : ∀ w, (zeroValue e).run P w = .ok z w)
    (hH : H[j]? = some (some b, mobj k l)) (ho : o.op = .lookup t x y true) (hx : ev S x = some (.map (some b))) (hy : ev S y = some (.int k a)) : FQuiet P o w0 I S H (.tuple #[(mfind a l).getD z, .bool (mfind a l).isSome]) := fun ρ hρ w hc => .inl (by
  simp only [execOp, ho, hρ _ _ hx, hρ _ _ hy]
  refine val_run ?_
  have hb := hc.own b _ (List.mem_of_getElem? hH)
  obtain ⟨r, h1, h2⟩ := run_findKey_int (P := P) hk a l w
  unfold Instr.lookup
  refine (run_of_bind (hm w)).trans ?_
  refine (run_of_bind (run_getObj hb)).trans ?_
  refine (run_of_bind (x := Pure.pure (ments k 0 l).toArray) (a := (ments k 0 l).toArray) (w' := w) rfl).trans ?_
  refine (run_of_bind (run_checkKey_int hk a _ w)).trans ?_
  refine (run_of_bind h1).trans ?_
  rw [← h2]
  cases r with
  | none => exact (run_of_bind (hz w)).trans rfl
  | some p => rfl)
end
end Go.HW
