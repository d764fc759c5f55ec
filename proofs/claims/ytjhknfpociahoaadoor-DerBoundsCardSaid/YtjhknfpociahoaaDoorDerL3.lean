import Derived.Test.YtjhknfpociahoaaDoorDerL2
namespace Go.Proofs.YtjhknfpociahoaaDoor
open Go Go.HW Go.RowKit
set_option linter.unusedVariables false
set_option linter.unusedSimpArgs false

/-! ### loops over lists -/
theorem scan {R : Type} (F : Nat → Int → Option (Unit ⊕ R)) (n : Nat) (p : Nat → Bool) (c : R)
    (step : ∀ k i, i < n → F (k + 1) (i : Int) = if p i then some (.inr c) else F k ((i + 1 : Nat) : Int))
    (stop : ∀ k, F (k + 1) (n : Int) = some (.inl ())) :
    ∀ d i k, i + d = n → d < k → F k (i : Int) = some (if (List.range' i d).any p then .inr c else .inl ())
  | 0, i, k, h, hk => by
    obtain ⟨k, rfl⟩ : ∃ q, k = q + 1 := ⟨k - 1, by omega⟩
    have : i = n := by omega
    subst this
    rw [stop]; simp
  | d + 1, i, k, h, hk => by
    obtain ⟨k, rfl⟩ : ∃ q, k = q + 1 := ⟨k - 1, by omega⟩
    rw [step k i (by omega), List.range'_succ, List.any_cons]
    cases p i with
    | true => simp
    | false => simp only [Bool.false_eq_true, if_false, Bool.false_or]; exact scan F n p c step stop d (i + 1) k (by omega) (by omega)
theorem scan0 {R : Type} (F : Nat → Int → Option (Unit ⊕ R)) (n k : Nat) (p : Nat → Bool) (c : R) (hk : n < k)
    (step : ∀ k i, i < n → F (k + 1) (i : Int) = if p i then some (.inr c) else F k ((i + 1 : Nat) : Int))
    (stop : ∀ k, F (k + 1) (n : Int) = some (.inl ())) : F k 0 = some (if (List.range n).any p then .inr c else .inl ()) := by
  have := scan F n p c step stop n 0 k (by omega) hk
  rwa [← List.range_eq_range'] at this
theorem gather (F : Nat → List Int → Int → Option (List Int)) (g : Nat → List Int) (n B : Nat)
    (step : ∀ k y i, i < n → y.length + (g i).length ≤ B → F (k + 1) y (i : Int) = F k (y ++ g i) ((i + 1 : Nat) : Int))
    (stop : ∀ k y, F (k + 1) y (n : Int) = some y) :
    ∀ d i y k, i + d = n → d < k → y.length + ((List.range' i d).flatMap g).length ≤ B → F k y (i : Int) = some (y ++ (List.range' i d).flatMap g)
  | 0, i, y, k, h, hk, _ => by
    obtain ⟨k, rfl⟩ : ∃ q, k = q + 1 := ⟨k - 1, by omega⟩
    have : i = n := by omega
    subst this
    rw [stop]; simp
  | d + 1, i, y, k, h, hk, hB => by
    obtain ⟨k, rfl⟩ : ∃ q, k = q + 1 := ⟨k - 1, by omega⟩
    rw [List.range'_succ, List.flatMap_cons] at hB ⊢
    rw [List.length_append] at hB
    rw [step k y i (by omega) (by omega), gather F g n B step stop d (i + 1) (y ++ g i) k (by omega) (by omega) (by rw [List.length_append]; omega), List.append_assoc]
theorem range_getD {α : Type} (xs : List α) (d : α) : (List.range xs.length).map (fun i => xs.getD i d) = xs := by
  apply List.ext_getElem (by simp)
  intro i h1 h2
  simp at h1
  simp [List.getElem?_eq_getElem h1]
theorem range_flatMap {α β : Type} (xs : List α) (d : α) (f : α → List β) : (List.range xs.length).flatMap (fun i => f (xs.getD i d)) = xs.flatMap f := by
  have := congrArg (fun l => l.flatMap f) (range_getD xs d)
  simpa [List.flatMap_map] using this
theorem range_any {α : Type} (xs : List α) (d : α) (f : α → Bool) : (List.range xs.length).any (fun i => f (xs.getD i d)) = xs.any f := by
  have := congrArg (fun l => l.any f) (range_getD xs d)
  simpa [List.any_map, Function.comp_def] using this
theorem suc {i n : Nat} (h : i < n) (hn : n ≤ 1048576) : IntKind.i64.wrap ((i : Int) + 1) = ((i + 1 : Nat) : Int) := by rw [w64 (by omega) (by omega)]; omega
theorem getD_mem {α : Type} {xs : List α} {i : Nat} {d : α} (h : i < xs.length) : xs.getD i d ∈ xs := by
  simp [List.getElem?_eq_getElem h]

/-! ### equal lists -/
theorem neq_any (a b : List Int) (h : a.length = b.length) : (List.range a.length).any (fun i => a.getD i 0 != b.getD i 0) = !(a == b) := by
  rw [Bool.eq_iff_iff]
  simp only [List.any_eq_true, List.mem_range, bne_iff_ne, Bool.not_eq_true', beq_eq_false_iff_ne, ne_eq]
  constructor
  · rintro ⟨i, hi, hne⟩ rfl; exact hne rfl
  · intro hne
    apply Classical.byContradiction
    intro hx
    apply hne
    apply List.ext_getElem h
    intro i h1 h2
    apply Classical.byContradiction
    intro hy
    exact hx ⟨i, h1, by simpa [List.getElem?_eq_getElem h1, List.getElem?_eq_getElem h2] using hy⟩
theorem eq35 (a b : List Int) (ha : a.length ≤ 1048576) : slices_Equal_35.f a b = some (a == b) := by
  unfold slices_Equal_35.f
  by_cases h : a.length = b.length
  · have hs := scan0 (slices_Equal_35.L0 a b) a.length (a.length + 1) (fun i => a.getD i 0 != b.getD i 0) false (by omega)
      (fun k i hi => by
        rw [slices_Equal_35.L0]
        rw [if_pos (by simp; omega), rq (by omega), rq (by omega), rq (by omega), nmE, suc hi ha, Int.toNat_natCast])
      (fun k => by unfold slices_Equal_35.L0; rw [if_neg (by simp)])
    rw [if_neg (by simp; omega), Int.toNat_natCast, hs, neq_any a b h]
    cases (a == b) <;> rfl
  · rw [if_pos (by simp; omega)]
    congr 1
    symm; rw [beq_eq_false_iff_ne]; rintro rfl; exact h rfl
theorem eq36 (a b : List Int) (ha : a.length ≤ 1048576) : slices_Equal_36.f a b = some (a == b) := by
  unfold slices_Equal_36.f
  by_cases h : a.length = b.length
  · have hs := scan0 (slices_Equal_36.L0 a b) a.length (a.length + 1) (fun i => a.getD i 0 != b.getD i 0) false (by omega)
      (fun k i hi => by
        rw [slices_Equal_36.L0]
        rw [if_pos (by simp; omega), rq (by omega), rq (by omega), rq (by omega), nmE, suc hi ha, Int.toNat_natCast])
      (fun k => by unfold slices_Equal_36.L0; rw [if_neg (by simp)])
    rw [if_neg (by simp; omega), Int.toNat_natCast, hs, neq_any a b h]
    cases (a == b) <;> rfl
  · rw [if_pos (by simp; omega)]
    congr 1
    symm; rw [beq_eq_false_iff_ne]; rintro rfl; exact h rfl

/-! ### values -/
def U8L (xs : List Int) : Prop := ∀ x ∈ xs, 0 ≤ x ∧ x ≤ 255
def U64L (xs : List Int) : Prop := ∀ x ∈ xs, 0 ≤ x ∧ x ≤ 18446744073709551615
mutual
def DOk : Der → Prop
  | .node p ks => I64 p.1 ∧ I64 p.2.2.1 ∧ U8L p.2.2.2.1 ∧ U64L p.2.2.2.2.2 ∧ DOks ks
def DOks : List Der → Prop
  | [] => True
  | t :: r => DOk t ∧ DOks r
end
mutual
def tot : Der → Nat
  | .node p ks => 1 + p.2.2.2.1.length + p.2.2.2.2.1.length + p.2.2.2.2.2.length + tots ks
def tots : List Der → Nat
  | [] => 0
  | t :: r => tot t + tots r
end
theorem DOks_mem : ∀ {ks : List Der}, DOks ks → ∀ t ∈ ks, DOk t
  | [], _, _, h => by cases h
  | a :: r, h, t, ht => by
    rw [DOks] at h
    rcases List.mem_cons.1 ht with rfl | ht
    · exact h.1
    · exact DOks_mem h.2 t ht
theorem DOks_of : ∀ {ks : List Der}, (∀ t ∈ ks, DOk t) → DOks ks
  | [], _ => by rw [DOks]; trivial
  | a :: r, h => by rw [DOks]; exact ⟨h a (by simp), DOks_of fun t ht => h t (by simp [ht])⟩
theorem tots_mem : ∀ {ks : List Der}, ∀ t ∈ ks, tot t ≤ tots ks
  | [], _, h => by cases h
  | a :: r, t, ht => by
    rw [tots]
    rcases List.mem_cons.1 ht with rfl | ht
    · omega
    · have := tots_mem t ht; omega
theorem tot_eq (v : Der) : tot v = 1 + (Der.bytes v).length + (Der.text v).length + (Der.arcs v).length + tots (Tree.kids v) := by cases v; rw [tot]; rfl
theorem tot_pos (v : Der) : 1 ≤ tot v := by rw [tot_eq]; omega
theorem tots_len : ∀ ks : List Der, ks.length ≤ tots ks
  | [] => by simp
  | a :: r => by rw [tots]; have := tots_len r; have := tot_pos a; simp; omega
theorem DOk_iff (v : Der) : DOk v ↔ I64 (Der.kind v) ∧ I64 (Der.num v) ∧ U8L (Der.bytes v) ∧ U64L (Der.arcs v) ∧ ∀ t ∈ Tree.kids v, DOk t := by
  cases v with
  | node p ks =>
    rw [DOk]
    exact ⟨fun ⟨a, b, c, d, e⟩ => ⟨a, b, c, d, DOks_mem e⟩, fun ⟨a, b, c, d, e⟩ => ⟨a, b, c, d, DOks_of e⟩⟩
theorem depth_kid {v t : Der} (h : t ∈ Tree.kids v) : Tree.depth t + 1 ≤ Tree.depth v := by
  cases v with
  | node p ks =>
    rw [Tree.depth]
    have : ∀ {ks : List Der}, t ∈ ks → Tree.depth t ≤ Tree.depths ks := by
      intro ks
      induction ks with
      | nil => intro h; cases h
      | cons a r ih =>
        intro h
        rw [Tree.depths]
        rcases List.mem_cons.1 h with rfl | h
        · exact Nat.le_max_left _ _
        · exact Nat.le_trans (ih h) (Nat.le_max_right _ _)
    have := this (ks := ks) h
    omega
theorem depth_pos (v : Der) : 1 ≤ Tree.depth v := by cases v; rw [Tree.depth]; omega
theorem Der.ext {v w : Der} (h1 : Der.kind v = Der.kind w) (h2 : Der.flag v = Der.flag w) (h3 : Der.num v = Der.num w) (h4 : Der.bytes v = Der.bytes w) (h5 : Der.text v = Der.text w) (h6 : Der.arcs v = Der.arcs w) (h7 : Tree.kids v = Tree.kids w) : v = w := by
  cases v with
  | node p ks => cases w with
    | node q ls =>
      obtain ⟨a, b, c, d, e, f⟩ := p
      obtain ⟨a', b', c', d', e', f'⟩ := q
      simp only [Der.kind, Der.flag, Der.num, Der.bytes, Der.text, Der.arcs, Tree.val, Tree.kids] at *
      subst h1; subst h2; subst h3; subst h4; subst h5; subst h6; subst h7; rfl

open Classical in
noncomputable def eqK (a b : List Der) : Bool := decide (a = b)
theorem eqK_true {a b : List Der} : eqK a b = true ↔ a = b := by simp [eqK]
theorem eqK_false {a b : List Der} : eqK a b = false ↔ ¬ a = b := by simp [eqK]
@[simp] theorem eqK_self (a : List Der) : eqK a a = true := eqK_true.2 rfl
theorem eqK_nil (a : List Der) : eqK a [] = decide (a.length = 0) := by rw [Bool.eq_iff_iff, eqK_true]; simp
open Classical in
noncomputable def eqD (v w : Der) : Bool := decide (v = w)
theorem eqD_true {v w : Der} : eqD v w = true ↔ v = w := by simp [eqD]
theorem eqD_ext (v w : Der) : eqD v w = ((Der.kind v == Der.kind w) && (Der.flag v == Der.flag w) && (Der.num v == Der.num w) && (Der.bytes v == Der.bytes w) && (Der.text v == Der.text w) && (Der.arcs v == Der.arcs w) && (eqK (Tree.kids v) (Tree.kids w))) := by
  rw [Bool.eq_iff_iff, eqD_true]
  simp only [Bool.and_eq_true, beq_iff_eq, eqK_true]
  constructor
  · rintro rfl; simp
  · rintro ⟨⟨⟨⟨⟨⟨h1, h2⟩, h3⟩, h4⟩, h5⟩, h6⟩, h7⟩; exact Der.ext h1 h2 h3 h4 h5 h6 h7
theorem kids_any (a b : List Der) (h : a.length = b.length) : (List.range a.length).any (fun i => !(eqD (a.getD i Der.dflt) (b.getD i Der.dflt))) = !(eqK a b) := by
  rw [Bool.eq_iff_iff]
  simp only [List.any_eq_true, List.mem_range, Bool.not_eq_true', eqD, eqK, decide_eq_false_iff_not]
  constructor
  · rintro ⟨i, hi, hne⟩ rfl; exact hne rfl
  · intro hne
    apply Classical.byContradiction
    intro hx
    apply hne
    apply List.ext_getElem h
    intro i h1 h2
    apply Classical.byContradiction
    intro hy
    exact hx ⟨i, h1, by simpa [List.getElem?_eq_getElem h1, List.getElem?_eq_getElem h2] using hy⟩
theorem eqFunc (r : Der → Der → Option Bool) (a b : List Der) (hr : ∀ x ∈ a, ∀ y, r x y = some (eqD x y)) (ha : a.length ≤ 1048576) : equalFunc.f r a b = some (eqK a b) := by
  unfold equalFunc.f
  by_cases h : a.length = b.length
  · have hs := scan0 (equalFunc.L0 r a b) a.length (a.length + 1) (fun i => !(eqD (a.getD i Der.dflt) (b.getD i Der.dflt))) false (by omega)
      (fun k i hi => by
        rw [equalFunc.L0]
        rw [if_pos (by simp; omega), rq (by omega), rq (by omega), nmE, rq (by omega), nmE, Int.toNat_natCast, hr _ (getD_mem hi), Option.bind_some, suc hi ha])
      (fun k => by unfold equalFunc.L0; rw [if_neg (by simp)])
    rw [if_neg (by simp; omega), Int.toNat_natCast, hs, kids_any a b h]
    cases (eqK a b) <;> rfl
  · rw [if_pos (by simp; omega)]
    congr 1
    symm; rw [eqK_false]; rintro rfl; exact h rfl
theorem dsame : ∀ (k : Nat) (v w : Der), Tree.depth v ≤ k → tot v ≤ 1048576 → der_Same.f k v w = some (eqD v w)
  | 0, v, w, h, _ => by have := depth_pos v; omega
  | k + 1, v, w, h, ht => by
    unfold der_Same.f der_Same.F
    have hv := tot_eq v
    have hl := tots_len (Tree.kids v)
    rw [eq35 _ _ (by omega), eq36 _ _ (by omega), eqFunc (der_Same.f k) _ _ (fun x hx y => dsame k x y (by have := depth_kid hx; omega) (by have := tots_mem x hx; omega)) (by omega), eqD_ext v w]
    by_cases h1 : Der.kind v = Der.kind w <;> by_cases h2 : Der.flag v = Der.flag w <;> by_cases h3 : Der.num v = Der.num w <;> by_cases h4 : Der.bytes v = Der.bytes w <;> by_cases h5 : Der.text v = Der.text w <;> by_cases h6 : Der.arcs v = Der.arcs w <;> simp [h1, h2, h3, h4, h5, h6]
end Go.Proofs.YtjhknfpociahoaaDoor
