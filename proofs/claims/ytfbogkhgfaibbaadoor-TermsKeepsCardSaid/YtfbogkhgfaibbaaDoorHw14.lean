import Derived.Test.YtfbogkhgfaibbaaDoorHw13
import Derived.Laws.Strings
import Derived.Laws.Concat
import Derived.Laws.Small
import Derived.Laws.BytesArg
import Derived.Laws.Cover1
import Derived.Lib.ConvBytes
namespace Go.HW
open Go Go.RowKit
set_option linter.unusedVariables false
set_option linter.unusedSimpArgs false

/-! ### texts -/
/-- Is a text less than another one? -/
def lessL (a b : List UInt8) : Bool := Op.bytesLess a b
section
variable {P : Program} {o : Oper} {S : Slots} {w0 : World} {I : Mem} {H : Heap} {T U : TypeId} {x y : Operand} {a b : List UInt8}
theorem p_str {op : BinOp} {v : Value} (hr : ∀ w, (binOp op T (str a) (str b)).run P w = .ok v w) (ho : o.op = .binOp op T x y U) (hx : ev S x = some (str a)) (hy : ev S y = some (str b)) : FPure P o S v := fun ρ hρ w => by
  simp only [execOp, ho, hρ _ _ hx, hρ _ _ hy]
  refine val_run ?_
  have hg : (eqGuard op T x y (str a) (str b)).run P w = .ok () w := by
    cases op <;> rfl
  exact (run_of_bind hg).trans (hr w)
theorem p_strEq (ho : o.op = .binOp .eql T x y U) (hx : ev S x = some (str a)) (hy : ev S y = some (str b)) : FPure P o S (.bool (a == b)) := p_str (fun w => by rw [str, str, binOp_string_eql]; simp) ho hx hy
theorem p_strNe (ho : o.op = .binOp .neq T x y U) (hx : ev S x = some (str a)) (hy : ev S y = some (str b)) : FPure P o S (.bool (!(a == b))) := p_str (fun w => by rw [str, str, binOp_string_neq]; simp) ho hx hy
theorem p_strGt (ho : o.op = .binOp .gtr T x y U) (hx : ev S x = some (str a)) (hy : ev S y = some (str b)) : FPure P o S (.bool (!(lessL a b || a == b))) := p_str (fun w => by rw [str, str, binOp_string_gtr]; simp [lessL]) ho hx hy
theorem p_strAdd (h : a.length + b.length ≤ 1099511627776) (ho : o.op = .binOp .add T x y U) (hx : ev S x = some (str a)) (hy : ev S y = some (str b)) : FPure P o S (str (a ++ b)) := p_str (fun w => by
  rw [str, str, binOp_string_add, run_string_add_sum w _ _ (by simp [ByteArray.size]; omega), ByteArray.mk_append_mk]; rfl) ho hx hy

/-! ### parts of slices and of texts -/
theorem run_bound {v : Int} {k : IntKind} {y : Nat} {c : BoundsCode} {w : World} (h0 : 0 ≤ v) (h1 : v ≤ (y : Int)) : (Instr.sliceBound (.int k v) y c).run P w = .ok v.toNat w := by
  unfold Instr.sliceBound
  refine (run_of_bind (show (asIntOf (.int k v)).run P w = .ok (k, v) w from rfl)).trans ?_
  simp only [if_pos (And.intro h0 h1)]
  rfl
theorem run_bounds {s : Bool} {n c : Nat} {w : World} (lo hi : Option Value) (l h : Nat) (hh : (hi = none ∧ h = n) ∨ ∃ k, hi = some (.int k (h : Int))) (hl : (lo = none ∧ l = 0) ∨ ∃ k, lo = some (.int k (l : Int))) (h1 : h ≤ c) (h2 : l ≤ h) : (Instr.sliceBounds s n c lo hi none).run P w = .ok (l, h, c) w := by
  unfold Instr.sliceBounds
  refine (run_of_bind (a := c) (w' := w) rfl).trans ?_
  have hlo : ∀ (cd : BoundsCode) (f : Nat → Sem (Nat × Nat × Nat)), (match lo with | some v => (Instr.sliceBound v h cd).bind f | none => (Pure.pure 0 : Sem Nat).bind f).run P w = (f l).run P w := fun cd f => by
    rcases hl with ⟨rfl, rfl⟩ | ⟨k, rfl⟩
    · rfl
    · refine (run_of_bind (run_bound (by omega) (by omega))).trans ?_
      simp
  rcases hh with ⟨rfl, rfl⟩ | ⟨k, rfl⟩
  · refine (run_of_bind (a := h) (w' := w) rfl).trans ?_
    exact (hlo _ _).trans rfl
  · refine (run_of_bind (run_bound (by omega) (by omega))).trans ?_
    simp only [Int.toNat_natCast]
    exact (hlo _ _).trans rfl
/-- A part of a slice. -/
def subsl (v : Value) (sz l h : Nat) : Value := match v with
  | .slice a n c => .slice (if c = l then a else a.map (·.add (l * sz))) (h - l) (c - l)
  | v => v
theorem RowV.sub {M : Mem} {v : Value} {sz n : Nat} {cs : List Value} (hr : RowV M v sz n cs) {l h : Nat} (h1 : h ≤ n) (h2 : l ≤ h) : RowV M (subsl v sz l h) sz (h - l) ((cs.drop (l * sz)).take ((h - l) * sz)) := by
  obtain ⟨h0, a, c, rfl, hc, h3⟩ := hr
  have hmul : h * sz ≤ n * sz := Nat.mul_le_mul_right _ h1
  have hmul2 : l * sz ≤ h * sz := Nat.mul_le_mul_right _ h2
  refine ⟨by simp only [List.length_take, List.length_drop, h0, Nat.sub_mul]; omega, _, _, rfl, by omega, ?_⟩
  rcases h3 with rfl | ⟨b, off, arr, t, z, rfl, e2, e3⟩
  · left; omega
  · by_cases hz : h - l = 0
    · exact .inl hz
    · right
      have : c ≠ l := by omega
      refine ⟨b, off + l * sz, arr, t, z, ?_, e2, fun i q hq => ?_⟩
      · simp [this, add_none]
      · have hi : i < (h - l) * sz := by
          rcases Nat.lt_or_ge i ((h - l) * sz) with h' | h'
          · exact h'
          · rw [List.getElem?_eq_none (by simp; omega)] at hq; cases hq
        rw [List.getElem?_take_of_lt hi, List.getElem?_drop] at hq
        rw [Nat.add_assoc]
        exact e3 _ q hq
theorem run_sub {M : Mem} {v : Value} {sz n e : Nat} {cs : List Value} {lo hi : Option Value} {w : World} {l h : Nat} (hu : ∀ w, (underlying T).run P w = .ok (.slice e) w) (hs : ∀ w, (sizeOf e).run P w = .ok sz w) (hr : RowV M v sz n cs)
    (hh : (hi = none ∧ h = n) ∨ ∃ k, hi = some (.int k (h : Int))) (hl : (lo = none ∧ l = 0) ∨ ∃ k, lo = some (.int k (l : Int))) (h1 : h ≤ n) (h2 : l ≤ h) : (Instr.sliceAt T v lo hi none).run P w = .ok (subsl v sz l h) w := by
  obtain ⟨h0, a, c, rfl, hc, h3⟩ := hr
  unfold Instr.sliceAt
  refine (run_of_bind (hu w)).trans ?_
  unfold Instr.slice
  refine (run_of_bind (hu w)).trans ?_
  refine (run_of_bind (run_bounds lo hi l h hh hl (by omega) h2)).trans ?_
  exact (run_of_bind (hs w)).trans rfl
variable {M : Mem} {v : Value} {sz n e : Nat} {cs : List Value} {i j : Int} {k k2 : IntKind} {z : Operand}
theorem toNat_cast {i : Int} (h : 0 ≤ i) : (i.toNat : Int) = i := Int.toNat_of_nonneg h
theorem p_subLH (hu : ∀ w, (underlying T).run P w = .ok (.slice e) w) (hs : ∀ w, (sizeOf e).run P w = .ok sz w) (hr : RowV M v sz n cs) (h0 : 0 ≤ i) (h1 : i ≤ j) (h2 : j ≤ (n : Int)) (ho : o.op = .slice T x (some y) (some z) none) (hx : ev S x = some v) (hy : ev S y = some (.int k i)) (hz : ev S z = some (.int k2 j)) : FPure P o S (subsl v sz i.toNat j.toNat) := fun ρ hρ w => by
  simp only [execOp, ho, hρ _ _ hx, Option.map_some, hρ _ _ hy, hρ _ _ hz, Option.map_none]
  exact val_run (run_sub (P := P) (w := w) hu hs hr (.inr ⟨k2, by rw [toNat_cast (by omega)]⟩) (.inr ⟨k, by rw [toNat_cast h0]⟩) (by omega) (by omega))
theorem p_subL (hu : ∀ w, (underlying T).run P w = .ok (.slice e) w) (hs : ∀ w, (sizeOf e).run P w = .ok sz w) (hr : RowV M v sz n cs) (h0 : 0 ≤ i) (h1 : i ≤ (n : Int)) (ho : o.op = .slice T x (some y) none none) (hx : ev S x = some v) (hy : ev S y = some (.int k i)) : FPure P o S (subsl v sz i.toNat n) := fun ρ hρ w => by
  simp only [execOp, ho, hρ _ _ hx, Option.map_some, hρ _ _ hy, Option.map_none]
  exact val_run (run_sub (P := P) (w := w) hu hs hr (.inl ⟨rfl, rfl⟩) (.inr ⟨k, by rw [toNat_cast h0]⟩) (by omega) (by omega))
theorem IntRow.sub {k : IntKind} {xs : List Int} (hr : IntRow M k v xs) {l h : Nat} (h1 : h ≤ xs.length) (h2 : l ≤ h) : IntRow M k (subsl v 1 l h) ((xs.drop l).take (h - l)) := by
  have := RowV.sub hr h1 h2
  unfold IntRow
  have hl : ((xs.drop l).take (h - l)).length = h - l := by simp; omega
  rw [hl]
  simpa [encl, List.map_take, List.map_drop] using this
theorem IntRow.subL {k : IntKind} {xs : List Int} (hr : IntRow M k v xs) {l : Nat} (h2 : l ≤ xs.length) : IntRow M k (subsl v 1 l xs.length) (xs.drop l) := by
  have := hr.sub (Nat.le_refl _) h2
  rwa [List.take_of_length_le (by simp)] at this
theorem IntRow.subH {k : IntKind} {xs : List Int} (hr : IntRow M k v xs) {h : Nat} (h1 : h ≤ xs.length) : IntRow M k (subsl v 1 0 h) (xs.take h) := by
  have := hr.sub h1 (Nat.zero_le _)
  simpa using this
theorem chunk_sub {cs : List Value} {n i l m : Nat} (h : i < m) : chunk ((cs.drop (l * n)).take (m * n)) n i = chunk cs n (l + i) := by
  unfold chunk
  have h2 : (i + 1) * n ≤ m * n := Nat.mul_le_mul_right _ h
  rw [Nat.add_mul] at h2
  rw [List.drop_take, List.take_take, List.drop_drop, Nat.min_eq_left (by omega), Nat.add_mul]
theorem RowS.sub {α : Type} {s : Shape α} {xs : List α} (hr : RowS s M v xs) {l h : Nat} (h1 : h ≤ xs.length) (h2 : l ≤ h) : RowS s M (subsl v s.n l h) ((xs.drop l).take (h - l)) := by
  obtain ⟨cs, g1, g2⟩ := hr
  have hl : ((xs.drop l).take (h - l)).length = h - l := by simp; omega
  refine ⟨_, by rw [hl]; exact g1.sub h1 h2, fun i x hx => ?_⟩
  have hi : i < h - l := by
    rcases Nat.lt_or_ge i (h - l) with h' | h'
    · exact h'
    · rw [List.getElem?_eq_none (by omega)] at hx; cases hx
  rw [chunk_sub hi]
  refine g2 _ x ?_
  rw [List.getElem?_take_of_lt hi, List.getElem?_drop] at hx
  exact hx
theorem RowS.subL {α : Type} {s : Shape α} {xs : List α} (hr : RowS s M v xs) {l : Nat} (h2 : l ≤ xs.length) : RowS s M (subsl v s.n l xs.length) (xs.drop l) := by
  have := hr.sub (Nat.le_refl _) h2
  rwa [List.take_of_length_le (by simp)] at this
theorem RowS.subH {α : Type} {s : Shape α} {xs : List α} (hr : RowS s M v xs) {h : Nat} (h1 : h ≤ xs.length) : RowS s M (subsl v s.n 0 h) (xs.take h) := by
  have := hr.sub h1 (Nat.zero_le _)
  simpa using this
theorem RowS.V {α : Type} {s : Shape α} {xs : List α} (hr : RowS s M v xs) : ∃ cs, RowV M v s.n xs.length cs := ⟨_, hr.choose_spec.1⟩
/-- A part of a text. -/
theorem extract_str (s : List UInt8) (l h : Nat) : (⟨s.toArray⟩ : ByteArray).extract l h = ⟨((s.drop l).take (h - l)).toArray⟩ := by
  apply ByteArray.ext
  rw [ByteArray.data_extract]
  simp
theorem run_strSub {s : List UInt8} {lo hi : Option Value} {w : World} {l h : Nat} (hu : ∀ w, (underlying T).run P w = .ok .string w)
    (hh : (hi = none ∧ h = s.length) ∨ ∃ k, hi = some (.int k (h : Int))) (hl : (lo = none ∧ l = 0) ∨ ∃ k, lo = some (.int k (l : Int))) (h1 : h ≤ s.length) (h2 : l ≤ h) : (Instr.sliceAt T (str s) lo hi none).run P w = .ok (str ((s.drop l).take (h - l))) w := by
  unfold Instr.sliceAt
  refine (run_of_bind (hu w)).trans ?_
  unfold Instr.slice
  refine (run_of_bind (hu w)).trans ?_
  have hsz : (⟨s.toArray⟩ : ByteArray).size = s.length := by simp [ByteArray.size]
  refine (run_of_bind (x := Instr.sliceBounds false (⟨s.toArray⟩ : ByteArray).size (⟨s.toArray⟩ : ByteArray).size lo hi none) (a := (l, h, s.length)) (w' := w) ?_).trans ?_
  · rw [hsz]; exact run_bounds lo hi l h hh hl h1 h2
  · simp only [extract_str]; rfl
theorem p_strSubLH {s : List UInt8} (hu : ∀ w, (underlying T).run P w = .ok .string w) (h0 : 0 ≤ i) (h1 : i ≤ j) (h2 : j ≤ (s.length : Int)) (ho : o.op = .slice T x (some y) (some z) none) (hx : ev S x = some (str s)) (hy : ev S y = some (.int k i)) (hz : ev S z = some (.int k2 j)) : FPure P o S (str ((s.drop i.toNat).take (j.toNat - i.toNat))) := fun ρ hρ w => by
  simp only [execOp, ho, hρ _ _ hx, Option.map_some, hρ _ _ hy, hρ _ _ hz, Option.map_none]
  exact val_run (run_strSub (P := P) (w := w) hu (.inr ⟨k2, by rw [toNat_cast (by omega)]⟩) (.inr ⟨k, by rw [toNat_cast h0]⟩) (by omega) (by omega))
/-! ### bytes and texts -/
/-! ### small things -/
theorem sl_cells {v : Value} {n : Nat} (h : ∃ a c, v = .slice a n c) : v.cells = #[v] := by obtain ⟨a, c, rfl⟩ := h; rfl
theorem sl_one {v : Value} {n : Nat} (h : ∃ a c, v = .slice a n c) : OneCell v := by obtain ⟨a, c, rfl⟩ := h; trivial
theorem one_nil : ∀ u ∈ ([] : List Value), OneCell u := fun u h => by cases h
theorem one_cons {a : Value} {l : List Value} (h : OneCell a) (hl : ∀ u ∈ l, OneCell u) : ∀ u ∈ a :: l, OneCell u := fun u hu => by
  cases hu with
  | head => exact h
  | tail _ h' => exact hl u h'
/-- The same, in these words. -/
theorem RowS.strs {xs : List (List UInt8)} (h : RowS Sh.str M v xs) : RowV M v 1 xs.length (xs.map str) := by
  obtain ⟨cs, h1, h2⟩ := h
  have : cs = xs.map str := by
    apply List.ext_getElem?
    intro i
    rw [List.getElem?_map]
    cases hx : xs[i]? with
    | none =>
      have := h1.1
      simp only [List.getElem?_eq_none_iff] at hx ⊢
      have h3 : cs.length = xs.length * 1 := h1.1
      simp; omega
    | some s =>
      have h3 : chunk cs 1 i = [str s] := h2 i s hx
      have := chunk_get (cs := cs) (n := 1) (i := i) (j := 0) (q := str s) (by rw [h3]; rfl)
      simpa using this
  rw [← this]; exact h1
theorem strs_get {xs : List (List UInt8)} {i : Nat} (h : i < xs.length) : (xs.map str)[i]? = some (str (xs.getD i [])) := by simp [h]

/-! ### maps with numbers -/
theorem f_lookupOk {t kt e : TypeId} {k : IntKind} {x y : Operand} {b j : Nat} {a : Int} {l : List (Int × Value)} {z : Value} (hm : ∀ w, (underlying t).run P w = .ok (.map kt e) w) (hk : ∀ w, (underlying kt).run P w = .ok (.int k) w) (hz : ∀ w, (zeroValue e).run P w = .ok z w)
    (hH : H[j]? = some (some b, mobj k l)) (ho : o.op = .lookup t x y true) (hx : ev S x = some (.map (some b))) (hy : ev S y = some (.int k a)) : FQuiet P o w0 I S H (.tuple #[(mfind a l).getD z, .bool (mfind a l).isSome]) := fun ρ hρ w hc => .inl (by
  simp only [execOp, ho, hρ _ _ hx, hρ _ _ hy]
  refine val_run ?_
  have hb := hc.own b _ (List.mem_of_getElem? hH)
  obtain ⟨r, h1, h2⟩ := run_findKey_int (P := P) hk a l w
  unfold Instr.lookup
  refine (run_of_bind (hm w)).trans ?_
  refine (run_of_bind (run_getObj hb)).trans ?_
  refine (run_of_bind (x := Pure.pure (ments k 0 l).toArray) (a := (ments k 0 l).toArray) (w' := w) rfl).trans ?_
  refine (run_of_bind (run_checkKey_int hk a _ w)).trans ?_
  refine (run_of_bind h1).trans ?_
  rw [← h2]
  cases r with
  | none => exact (run_of_bind (hz w)).trans rfl
  | some p => rfl)
end
end Go.HW
