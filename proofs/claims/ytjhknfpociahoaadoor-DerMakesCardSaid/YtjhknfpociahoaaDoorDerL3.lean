import Derived.Test.YtjhknfpociahoaaDoorDerL2
namespace Go.Proofs.YtjhknfpociahoaaDoor
open Go Go.HW Go.RowKit
set_option linter.unusedVariables false
set_option linter.unusedSimpArgs false

/-! ### loops over lists -/
theorem scan {R : Type} (F : Nat → Int → Option (Unit ⊕ R)) (n : Nat) (p : Nat → Bool) (c : R)
    (step : ∀ k i, i < n → F (k + 1) (i : Int) = if p i then some (.inr c) else F k ((i + 1 : Nat) : Int))
    (stop : ∀ k, F (k + 1) (n : Int) = some (.inl ())) :
    ∀ d i k, i + d = n → d < k → F k (i : Int) = some (if (List.range' i d).any p then .inr c else .inl ())
  | 0, i, k, h, hk => by
    obtain ⟨k, rfl⟩ : ∃ q, k = q + 1 := ⟨k - 1, by omega⟩
    have : i = n := by omega
    subst this
    rw [stop]; simp
  | d + 1, i, k, h, hk => by
    obtain ⟨k, rfl⟩ : ∃ q, k = q + 1 := ⟨k - 1, by omega⟩
    rw [step k i (by omega), List.range'_succ, List.any_cons]
    cases p i with
    | true => simp
    | false => simp only [Bool.false_eq_true, if_false, Bool.false_or]; exact scan F n p c step stop d (i + 1) k (by omega) (by omega)
theorem scan0 {R : Type} (F : Nat → Int → Option (Unit ⊕ R)) (n k : Nat) (p : Nat → Bool) (c : R) (hk : n < k)
    (step : ∀ k i, i < n → F (k + 1) (i : Int) = if p i then some (.inr c) else F k ((i + 1 : Nat) : Int))
    (stop : ∀ k, F (k + 1) (n : Int) = some (.inl ())) : F k 0 = some (if (List.range n).any p then .inr c else .inl ()) := by
  have := scan F n p c step stop n 0 k (by omega) hk
  rwa [← List.range_eq_range'] at this
theorem suc {i n : Nat} (h : i < n) (hn : n ≤ 1048576) : IntKind.i64.wrap ((i : Int) + 1) = ((i + 1 : Nat) : Int) := by rw [w64 (by omega) (by omega)]; omega
theorem getD_mem {α : Type} {xs : List α} {i : Nat} {d : α} (h : i < xs.length) : xs.getD i d ∈ xs := by
  simp [List.getElem?_eq_getElem h]

/-! ### equal lists -/
theorem neq_any (a b : List Int) (h : a.length = b.length) : (List.range a.length).any (fun i => a.getD i 0 != b.getD i 0) = !(a == b) := by
  rw [Bool.eq_iff_iff]
  simp only [List.any_eq_true, List.mem_range, bne_iff_ne, Bool.not_eq_true', beq_eq_false_iff_ne, ne_eq]
  constructor
  · rintro ⟨i, hi, hne⟩ rfl; exact hne rfl
  · intro hne
    apply Classical.byContradiction
    intro hx
    apply hne
    apply List.ext_getElem h
    intro i h1 h2
    apply Classical.byContradiction
    intro hy
    exact hx ⟨i, h1, by simpa [List.getElem?_eq_getElem h1, List.getElem?_eq_getElem h2] using hy⟩
/-! ### values -/
def U8L (xs : List Int) : Prop := ∀ x ∈ xs, 0 ≤ x ∧ x ≤ 255
def U64L (xs : List Int) : Prop := ∀ x ∈ xs, 0 ≤ x ∧ x ≤ 18446744073709551615
mutual
def DOk : Der → Prop
  | .node p ks => I64 p.1 ∧ I64 p.2.2.1 ∧ U8L p.2.2.2.1 ∧ U64L p.2.2.2.2.2 ∧ DOks ks
def DOks : List Der → Prop
  | [] => True
  | t :: r => DOk t ∧ DOks r
end
mutual
def tot : Der → Nat
  | .node p ks => 1 + p.2.2.2.1.length + p.2.2.2.2.1.length + p.2.2.2.2.2.length + tots ks
def tots : List Der → Nat
  | [] => 0
  | t :: r => tot t + tots r
end
theorem DOks_mem : ∀ {ks : List Der}, DOks ks → ∀ t ∈ ks, DOk t
  | [], _, _, h => by cases h
  | a :: r, h, t, ht => by
    rw [DOks] at h
    rcases List.mem_cons.1 ht with rfl | ht
    · exact h.1
    · exact DOks_mem h.2 t ht
theorem DOks_of : ∀ {ks : List Der}, (∀ t ∈ ks, DOk t) → DOks ks
  | [], _ => by rw [DOks]; trivial
  | a :: r, h => by rw [DOks]; exact ⟨h a (by simp), DOks_of fun t ht => h t (by simp [ht])⟩
theorem tots_mem : ∀ {ks : List Der}, ∀ t ∈ ks, tot t ≤ tots ks
  | [], _, h => by cases h
  | a :: r, t, ht => by
    rw [tots]
    rcases List.mem_cons.1 ht with rfl | ht
    · omega
    · have := tots_mem t ht; omega
theorem tot_eq (v : Der) : tot v = 1 + (Der.bytes v).length + (Der.text v).length + (Der.arcs v).length + tots (Tree.kids v) := by cases v; rw [tot]; rfl
theorem tot_pos (v : Der) : 1 ≤ tot v := by rw [tot_eq]; omega
theorem tots_len : ∀ ks : List Der, ks.length ≤ tots ks
  | [] => by simp
  | a :: r => by rw [tots]; have := tots_len r; have := tot_pos a; simp; omega
theorem DOk_iff (v : Der) : DOk v ↔ I64 (Der.kind v) ∧ I64 (Der.num v) ∧ U8L (Der.bytes v) ∧ U64L (Der.arcs v) ∧ ∀ t ∈ Tree.kids v, DOk t := by
  cases v with
  | node p ks =>
    rw [DOk]
    exact ⟨fun ⟨a, b, c, d, e⟩ => ⟨a, b, c, d, DOks_mem e⟩, fun ⟨a, b, c, d, e⟩ => ⟨a, b, c, d, DOks_of e⟩⟩
theorem depth_kid {v t : Der} (h : t ∈ Tree.kids v) : Tree.depth t + 1 ≤ Tree.depth v := by
  cases v with
  | node p ks =>
    rw [Tree.depth]
    have : ∀ {ks : List Der}, t ∈ ks → Tree.depth t ≤ Tree.depths ks := by
      intro ks
      induction ks with
      | nil => intro h; cases h
      | cons a r ih =>
        intro h
        rw [Tree.depths]
        rcases List.mem_cons.1 h with rfl | h
        · exact Nat.le_max_left _ _
        · exact Nat.le_trans (ih h) (Nat.le_max_right _ _)
    have := this (ks := ks) h
    omega
theorem depth_pos (v : Der) : 1 ≤ Tree.depth v := by cases v; rw [Tree.depth]; omega
theorem Der.ext {v w : Der} (h1 : Der.kind v = Der.kind w) (h2 : Der.flag v = Der.flag w) (h3 : Der.num v = Der.num w) (h4 : Der.bytes v = Der.bytes w) (h5 : Der.text v = Der.text w) (h6 : Der.arcs v = Der.arcs w) (h7 : Tree.kids v = Tree.kids w) : v = w := by
  cases v with
  | node p ks => cases w with
    | node q ls =>
      obtain ⟨a, b, c, d, e, f⟩ := p
      obtain ⟨a', b', c', d', e', f'⟩ := q
      simp only [Der.kind, Der.flag, Der.num, Der.bytes, Der.text, Der.arcs, Tree.val, Tree.kids] at *
      subst h1; subst h2; subst h3; subst h4; subst h5; subst h6; subst h7; rfl

open Classical in
noncomputable def eqK (a b : List Der) : Bool := decide (a = b)
theorem eqK_true {a b : List Der} : eqK a b = true ↔ a = b := by simp [eqK]
theorem eqK_false {a b : List Der} : eqK a b = false ↔ ¬ a = b := by simp [eqK]
@[simp] theorem eqK_self (a : List Der) : eqK a a = true := eqK_true.2 rfl
open Classical in
noncomputable def eqD (v w : Der) : Bool := decide (v = w)
theorem eqD_true {v w : Der} : eqD v w = true ↔ v = w := by simp [eqD]
theorem eqD_ext (v w : Der) : eqD v w = ((Der.kind v == Der.kind w) && (Der.flag v == Der.flag w) && (Der.num v == Der.num w) && (Der.bytes v == Der.bytes w) && (Der.text v == Der.text w) && (Der.arcs v == Der.arcs w) && (eqK (Tree.kids v) (Tree.kids w))) := by
  rw [Bool.eq_iff_iff, eqD_true]
  simp only [Bool.and_eq_true, beq_iff_eq, eqK_true]
  constructor
  · rintro rfl; simp
  · rintro ⟨⟨⟨⟨⟨⟨h1, h2⟩, h3⟩, h4⟩, h5⟩, h6⟩, h7⟩; exact Der.ext h1 h2 h3 h4 h5 h6 h7
theorem kids_any (a b : List Der) (h : a.length = b.length) : (List.range a.length).any (fun i => !(eqD (a.getD i Der.dflt) (b.getD i Der.dflt))) = !(eqK a b) := by
  rw [Bool.eq_iff_iff]
  simp only [List.any_eq_true, List.mem_range, Bool.not_eq_true', eqD, eqK, decide_eq_false_iff_not]
  constructor
  · rintro ⟨i, hi, hne⟩ rfl; exact hne rfl
  · intro hne
    apply Classical.byContradiction
    intro hx
    apply hne
    apply List.ext_getElem h
    intro i h1 h2
    apply Classical.byContradiction
    intro hy
    exact hx ⟨i, h1, by simpa [List.getElem?_eq_getElem h1, List.getElem?_eq_getElem h2] using hy⟩
theorem bytesL_inj {a b : List Int} (ha : U8L a) (hb : U8L b) : bytesL a = bytesL b ↔ a = b := by
  refine ⟨fun h => ?_, fun h => by rw [h]⟩
  have key : ∀ x : Int, 0 ≤ x ∧ x ≤ 255 → (((UInt8.ofNat x.toNat).toNat : Nat) : Int) = x := fun x hx => by
    rw [UInt8.toNat_ofNat']; omega
  have h2 : (bytesL a).map (fun c => ((c.toNat : Nat) : Int)) = (bytesL b).map (fun c => ((c.toNat : Nat) : Int)) := by rw [h]
  unfold bytesL at h2
  rw [List.map_map, List.map_map] at h2
  have e : ∀ l : List Int, U8L l → l.map ((fun c : UInt8 => ((c.toNat : Nat) : Int)) ∘ fun n => UInt8.ofNat n.toNat) = l := fun l hl => by
    refine Eq.trans (List.map_congr_left (g := id) fun x hx => key x (hl x hx)) (List.map_id l)
  rwa [e a ha, e b hb] at h2
theorem rsame : ∀ (k : Nat) (v w : Der), Tree.depth v ≤ k → tot v ≤ 1048576 → DOk v → DOk w → ref13_Same.f k v w = some (eqD v w)
  | 0, v, w, h, _, _, _ => by have := depth_pos v; omega
  | k + 1, v, w, h, ht, hv, hw => by
    unfold ref13_Same.f ref13_Same.F
    have hv' := tot_eq v
    have hl := tots_len (Tree.kids v)
    obtain ⟨-, -, v3, -, v5⟩ := (DOk_iff v).1 hv
    obtain ⟨-, -, w3, -, w5⟩ := (DOk_iff w).1 hw
    rw [eqD_ext v w]
    by_cases h1 : Der.kind v = Der.kind w
    · by_cases h2 : Der.flag v = Der.flag w
      · by_cases h3 : Der.num v = Der.num w
        · by_cases h4 : Der.bytes v = Der.bytes w
          · by_cases h5 : Der.text v = Der.text w
            · by_cases h6 : (Der.arcs v).length = (Der.arcs w).length
              · by_cases h7 : (Tree.kids v).length = (Tree.kids w).length
                · have hs := scan0 (ref13_Same.L0 v w) (Der.arcs v).length ((Der.arcs v).length + 1) (fun i => (Der.arcs v).getD i 0 != (Der.arcs w).getD i 0) false (by omega)
                    (fun k i hi => by
                      rw [ref13_Same.L0]
                      rw [if_pos (by simp; omega), rq (by omega), rq (by omega), rq (by omega), nmE, suc hi (by omega), Int.toNat_natCast])
                    (fun k => by unfold ref13_Same.L0; rw [if_neg (by simp)])
                  have hs2 := scan0 (ref13_Same.L1 (ref13_Same.f k) v w) (Tree.kids v).length ((Tree.kids v).length + 1) (fun i => !(eqD ((Tree.kids v).getD i Der.dflt) ((Tree.kids w).getD i Der.dflt))) false (by omega)
                    (fun k' i hi => by
                      rw [ref13_Same.L1]
                      have m1 := getD_mem (d := Der.dflt) hi
                      have m2 := getD_mem (d := Der.dflt) (xs := Tree.kids w) (i := i) (by omega)
                      rw [nmE, if_pos (by simp; omega), rq (by omega), rq (by omega), nmE, rq (by omega), nmE, Int.toNat_natCast, rsame k _ _ (by have := depth_kid m1; omega) (by have := tots_mem _ m1; omega) (v5 _ m1) (w5 _ m2), Option.bind_some, suc hi (by omega)])
                    (fun k => by unfold ref13_Same.L1; rw [nmE, if_neg (by simp)])
                  simp only [h1, h2, h3, h4, h5, h6, h7, bne_self_eq_false, Bool.false_eq_true, if_false, Option.bind_some, nmE, BEq.rfl, Bool.not_true, Int.toNat_natCast]
                  rw [← h6, ← h7, hs, hs2, neq_any _ _ h6, kids_any _ _ h7]
                  cases (Der.arcs v == Der.arcs w) <;> simp
                  cases eqK (Tree.kids v) (Tree.kids w) <;> simp
                · have : Tree.kids v ≠ Tree.kids w := fun e => h7 (by rw [e])
                  have h7' : ¬ ((Tree.kids v).length : Int) = (Tree.kids w).length := by omega
                  simp [h1, h2, h3, h4, h5, h6, eqK_false.2 this, h7']
              · have : Der.arcs v ≠ Der.arcs w := fun e => h6 (by rw [e])
                have h6' : ¬ ((Der.arcs v).length : Int) = (Der.arcs w).length := by omega
                simp [h1, h2, h3, h4, h5, this, h6']
            · simp [h1, h2, h3, h4, h5]
          · have : ¬ bytesL (Der.bytes v) = bytesL (Der.bytes w) := fun e => h4 ((bytesL_inj v3 w3).1 e)
            simp [h1, h2, h3, h4, this]
        · simp [h1, h2, h3]
      · simp [h1, h2]
    · simp [h1]
end Go.Proofs.YtjhknfpociahoaaDoor
