import Derived.Test.YtjhknfpociahoaaDoorDerL4
namespace Go.Proofs.YtjhknfpociahoaaDoor
open Go Go.HW Go.RowKit
set_option linter.unusedVariables false
set_option linter.unusedSimpArgs false

theorem scanI (F : Nat → Int → Option (Unit ⊕ Int)) (n : Nat) (p : Nat → Bool)
    (step : ∀ k i, i < n → F (k + 1) (i : Int) = if p i then some (.inr (i : Int)) else F k ((i + 1 : Nat) : Int))
    (stop : ∀ k, F (k + 1) (n : Int) = some (.inl ())) :
    ∀ d i k, i + d = n → d < k → (∃ j : Nat, F k (i : Int) = some (.inr (j : Int)) ∧ (List.range' i d).any p = true) ∨ (F k (i : Int) = some (.inl ()) ∧ (List.range' i d).any p = false)
  | 0, i, k, h, hk => by
    obtain ⟨k, rfl⟩ : ∃ q, k = q + 1 := ⟨k - 1, by omega⟩
    have : i = n := by omega
    subst this
    rw [stop]; simp
  | d + 1, i, k, h, hk => by
    obtain ⟨k, rfl⟩ : ∃ q, k = q + 1 := ⟨k - 1, by omega⟩
    rw [step k i (by omega), List.range'_succ, List.any_cons]
    cases p i with
    | true => left; exact ⟨i, by simp⟩
    | false => simp only [Bool.false_eq_true, if_false, Bool.false_or]; exact scanI F n p step stop d (i + 1) k (by omega) (by omega)
theorem scanI0 (F : Nat → Int → Option (Unit ⊕ Int)) (n : Nat) (p : Nat → Bool)
    (step : ∀ k i, i < n → F (k + 1) (i : Int) = if p i then some (.inr (i : Int)) else F k ((i + 1 : Nat) : Int))
    (stop : ∀ k, F (k + 1) (n : Int) = some (.inl ())) :
    (onw (F (n + 1) 0) (fun _ => some (-1 : Int)) (fun r => some r)).bind (fun t => some (decide (0 ≤ t))) = some ((List.range n).any p) := by
  have := scanI F n p step stop n 0 (n + 1) (by omega) (by omega)
  rw [← List.range_eq_range'] at this
  rcases this with ⟨j, h1, h2⟩ | ⟨h1, h2⟩
  · rw [show (0 : Int) = ((0 : Nat) : Int) from rfl, h1, h2]; simp
  · rw [show (0 : Int) = ((0 : Nat) : Int) from rfl, h1, h2]; simp
theorem cont64 (a : List Int) (h : a.length ≤ 1048576) : containsFunc64.f a = some (a.any fun x => decide (2147483647 < x)) := by
  unfold containsFunc64.f indexFunc64.f
  have hs := scanI0 (indexFunc64.L0 a) a.length (fun i => decide (2147483647 < a.getD i 0))
    (fun k i hi => by
      rw [indexFunc64.L0, if_pos (by simp; omega), rq (by omega), rq (by omega), suc hi h, Int.toNat_natCast]; rfl)
    (fun k => by rw [indexFunc64.L0, if_neg (by simp)])
  rw [range_any a 0 (fun x => decide (2147483647 < x))] at hs
  rw [Int.toNat_natCast]; exact hs
theorem contMay (r : Der → Int → Option Bool) (ks : List Der) (a1 : Int) (g : Der → Bool) (h : ks.length ≤ 1048576) (hr : ∀ x ∈ ks, r x (IntKind.i64.wrap (a1 - 1)) = some (g x)) : containsFuncMay.f r ks a1 = some (ks.any fun t => !g t) := by
  unfold containsFuncMay.f indexFuncMay.f
  have hs := scanI0 (indexFuncMay.L0 r ks a1) ks.length (fun i => !g (ks.getD i Der.dflt))
    (fun k i hi => by
      rw [indexFuncMay.L0, if_pos (by simp; omega), rq (by omega), rq (by omega), suc hi h, Int.toNat_natCast, nmE]
      unfold der_may_1.f
      rw [hr _ (getD_mem hi)]; rfl)
    (fun k => by rw [indexFuncMay.L0, if_neg (by simp)])
  rw [range_any ks Der.dflt (fun t => !g t)] at hs
  rw [Int.toNat_natCast]; exact hs
theorem dmayArcs (a : List Int) (h : a.length ≤ 1048576) : der_mayArcs.f a = some (arcsB a) := by
  unfold der_mayArcs.f arcsB
  rw [cont64 a h]
  have e1 : decide (2 ≤ (a.length : Int)) = decide (2 ≤ a.length) := by rw [decide_eq_decide]; omega
  have e2 : decide ((a.length : Int) ≤ 16) = decide (a.length ≤ 16) := by rw [decide_eq_decide]; omega
  have e3 : (!(a.any fun x => decide (2147483647 < x))) = a.all (fun x => decide (x < 2147483648)) := by
    rw [List.not_any_eq_all_not]; congr 1; funext x; rw [Bool.eq_iff_iff]; simp; omega
  rw [e1, e2, ← e3]
  by_cases h2 : 2 ≤ a.length
  · rw [rq (show (0 : Int) < a.length by omega), rq (show (0 : Int) < a.length by omega), rq (show (1 : Int) < a.length by omega)]
    rw [show (0 : Int).toNat = 0 from rfl, show (1 : Int).toNat = 1 from rfl]
    simp only [ite_some, Option.bind_some]
    congr 1
    generalize (a.any fun x => decide (2147483647 < x)) = A
    by_cases h3 : a.getD 0 0 = 2
    · rw [h3]; by_cases c1 : a.length ≤ 16 <;> simp [h2, c1]
    · rw [beq_eq_false_iff_ne.2 h3]
      generalize decide (a.getD 0 0 ≤ 2) = X
      generalize decide (a.getD 1 0 < 40) = Y
      by_cases c1 : a.length ≤ 16 <;> cases X <;> cases Y <;> simp [h2, c1]
  · simp [h2]
theorem dtime_L0 (t : List UInt8) (h : t.length ≤ 1048576) : der_mayTime.L0 t (t.length + 1) 0 = some (if (List.range t.length).any (fun i => decide (i < 14) && !dig t i) then .inr false else .inl ()) :=
  scan0 (der_mayTime.L0 t) t.length (t.length + 1) _ false (by omega)
    (fun k i hi => by
      rw [der_mayTime.L0, if_pos (by simp; omega), suc hi h, rq (by omega), rq (by omega), Int.toNat_natCast]
      simp only [ite_some, Option.bind_some]
      congr 1
      rw [eq_iff_iff]
      unfold dig
      by_cases c : i < 14
      · have : ((i : Int) < 14) := by omega
        simp [c, this]
      · have : ¬ ((i : Int) < 14) := by omega
        simp [c, this])
    (fun k => by rw [der_mayTime.L0, if_neg (by simp)])
theorem dtime (t : List UInt8) (h : t.length ≤ 1048576) : der_mayTime.f t = some (timeB t) := by
  unfold der_mayTime.f timeB
  rw [Int.toNat_natCast, dtime_L0 t h]
  by_cases h15 : t.length = 15
  · have e : (List.range t.length).any (fun i => decide (i < 14) && !dig t i) = !((List.range 14).all (dig t)) := by
      rw [h15, List.range_succ, List.any_append, Bool.eq_iff_iff]
      simp only [Bool.or_eq_true, List.any_eq_true, List.mem_range, Bool.and_eq_true, decide_eq_true_eq, Bool.not_eq_true', List.mem_singleton]
      simp only [← Bool.not_eq_true, List.all_eq_true, List.mem_range]
      constructor
      · rintro (⟨i, hi, -, hd⟩ | ⟨i, rfl, hi, -⟩)
        · intro hx; exact hd (hx i hi)
        · omega
      · intro hx
        left
        apply Classical.byContradiction
        intro hy
        exact hx fun i hi => Classical.byContradiction fun hz => hy ⟨i, hi, hi, hz⟩
    rw [e, h15]
    rw [rq (by decide)]
    rw [show (14 : Int).toNat = 14 from rfl]
    cases (List.range 14).all (dig t) <;> simp
  · have : ((t.length : Int) == 15) = false := by rw [beq_eq_false_iff_ne]; omega
    rw [this]
    have h2 : (t.length == 15) = false := by rw [beq_eq_false_iff_ne]; omega
    rw [h2]
    cases (List.range t.length).any (fun i => decide (i < 14) && !dig t i) <;> simp
theorem rmay : ∀ (k d : Nat) (v : Der), d < k → d ≤ 1000 → tot v ≤ 1048576 → ref13_May.f k v (d : Int) = some (mayB d v)
  | 0, d, v, h, _, _ => by omega
  | k + 1, 0, v, h, hd, ht => by
    unfold ref13_May.f ref13_May.F mayB
    simp
  | k + 1, d + 1, v, h, hd, ht => by
    unfold ref13_May.f ref13_May.F mayB
    have hv := tot_eq v
    have hl := tots_len (Tree.kids v)
    have hs := scan0 (ref13_May.L0 (ref13_May.f k) v ((d + 1 : Nat) : Int)) (Tree.kids v).length ((Tree.kids v).length + 1) (fun i => !mayB d ((Tree.kids v).getD i Der.dflt)) false (by omega)
      (fun k' i hi => by
        have m1 := getD_mem (d := Der.dflt) hi
        rw [ref13_May.L0, if_pos (by simp; omega), rq (by omega), rq (by omega), nmE, Int.toNat_natCast, suc hi (by omega), w64 (n := ((d + 1 : Nat) : Int) - 1) (by omega) (by omega), show ((d + 1 : Nat) : Int) - 1 = (d : Int) by omega, rmay k d _ (by omega) (by omega) (by have := tots_mem _ m1; omega), Option.bind_some])
      (fun k' => by rw [ref13_May.L0, if_neg (by simp)])
    rw [range_any (Tree.kids v) Der.dflt (fun t => !mayB d t)] at hs
    rw [rown_eq v ht, Int.toNat_natCast, hs, if_neg (by simp; omega)]
    have e : ((Tree.kids v).any fun t => !mayB d t) = !((Tree.kids v).all (mayB d)) := by rw [List.not_all_eq_any_not]
    rw [e]
    cases ownB v <;> cases (Tree.kids v).all (mayB d) <;> simp
theorem tagsB (k : Int) : assocB [(1, 1), (2, 2), (3, 3), (4, 4), (5, 6), (6, 12), (10, 24), (7, 48), (9, 49), (8, 160)] k = (decide (1 ≤ k) && decide (k ≤ 10)) := by
  rcases kinds k with h | h | h | h | h | h | h | h | h | h | h | h
  · have h1 : ¬ (1 : Int) ≤ k := by omega
    simp [assocB, h1]; omega
  · have h1 : ¬ k ≤ (10 : Int) := by omega
    simp [assocB, h1]; omega
  all_goals (subst h; rfl)
theorem dmay : ∀ (k d : Nat) (v : Der), d < k → d ≤ 1000 → tot v ≤ 1048576 → der_may.f k v (d : Int) = some (mayB d v)
  | 0, d, v, h, _, _ => by omega
  | k + 1, 0, v, h, hd, ht => by
    unfold der_may.f der_may.F mayB
    rw [show der_tags.f = some () from rfl]
    simp
  | k + 1, d + 1, v, h, hd, ht => by
    unfold der_may.f der_may.F mayB
    have hv := tot_eq v
    have hl := tots_len (Tree.kids v)
    have hc := contMay (der_may.f k) (Tree.kids v) ((d + 1 : Nat) : Int) (mayB d) (by omega) (fun x hx => by
      rw [w64 (n := ((d + 1 : Nat) : Int) - 1) (by omega) (by omega), show ((d + 1 : Nat) : Int) - 1 = (d : Int) by omega]
      exact dmay k d x (by omega) (by omega) (by have := tots_mem _ hx; omega))
    have e : ((Tree.kids v).any fun t => !mayB d t) = !((Tree.kids v).all (mayB d)) := by rw [List.not_all_eq_any_not]
    rw [e] at hc
    have hd1 : ¬ ((d + 1 : Nat) : Int) < 1 := by omega
    rw [show der_tags.f = some () from rfl, hc, dmayArcs _ (by omega), dtime _ (by omega), rq (by omega), tagsB]
    have hs : ∀ w, der_Same.f (Der.fuel v) v w = some (eqD v w) := fun w => dsame _ v w (Nat.le_refl _) ht
    simp only [Option.bind_some, nmE, hs, eqD_ext, hd1, decide_false]
    have hkl := (eqK_nil (Tree.kids v)).symm
    have hne : (((Tree.kids v).length : Int) != 1) = !(decide ((Tree.kids v).length = 1)) := by rw [Bool.eq_iff_iff]; simp; omega
    unfold ownB textB der_bare.f
    rw [hkl, hne]
    have hk0' : eqK (Tree.kids v) [] = true → (Tree.kids v).all (mayB d) = true := fun h => by rw [eqK_true.1 h]; rfl
    generalize (Tree.kids v).all (mayB d) = KK at *
    generalize decide ((Tree.kids v).length = 1) = K1
    generalize arcsB (Der.arcs v) = A
    generalize timeB (Der.text v) = T
    generalize Lib.validD (Der.text v) = V
    rcases kinds (Der.kind v) with h | h | h | h | h | h | h | h | h | h | h | h
    · have h1 : ¬ (1 : Int) ≤ Der.kind v := by omega
      simp [h, h1]
    · have h1 : ¬ Der.kind v ≤ (10 : Int) := by omega
      simp [h, h1]
    all_goals simp [h]
    all_goals generalize eqK (Tree.kids v) [] = K0 at *
    all_goals by_cases b1 : Der.bytes v = [] <;> by_cases b2 : Der.text v = [] <;> by_cases b3 : Der.arcs v = [] <;> cases b4 : Der.flag v <;> cases K0 <;> simp [b1, b2, b3]
    all_goals try (have hk := hk0' rfl; subst hk)
    all_goals rcases (show Der.num v < 0 ∨ 30 < Der.num v ∨ Der.num v = 0 ∨ (0 < Der.num v ∧ Der.num v ≤ 30) by omega) with n | n | n | n
    all_goals have f0 : Der.num v < 0 ∨ ¬ Der.num v < 0 := by omega
    all_goals have f1 : Der.num v = 0 ∨ ¬ Der.num v = 0 := by omega
    all_goals have f2 : 30 < Der.num v ∨ ¬ 30 < Der.num v := by omega
    all_goals have f3 : 0 ≤ Der.num v ∨ ¬ 0 ≤ Der.num v := by omega
    all_goals have f4 : Der.num v ≤ 30 ∨ ¬ Der.num v ≤ 30 := by omega
    all_goals rcases f0 with f0 | f0 <;> rcases f1 with f1 | f1 <;> rcases f2 with f2 | f2 <;> rcases f3 with f3 | f3 <;> rcases f4 with f4 | f4
    all_goals first
      | (exfalso; omega)
      | (simp [f0, f1, f2, f3, f4]; done)
      | (cases K1 <;> simp [f0, f1, f2, f3, f4])
end Go.Proofs.YtjhknfpociahoaaDoor
