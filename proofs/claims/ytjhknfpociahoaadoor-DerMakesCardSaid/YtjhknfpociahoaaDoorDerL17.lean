import Derived.Test.YtjhknfpociahoaaDoorDerL16
namespace Go.Proofs.YtjhknfpociahoaaDoor
open Go Go.HW Go.RowKit
set_option linter.unusedVariables false
set_option linter.unusedSimpArgs false

/-! ### how big a value is -/
def BigR (v : Der) (a z : Int) : Prop := -200000 ≤ z ∧ z ≤ a - 1 ∧ (0 ≤ z → (tot v : Int) ≤ 200 * (a - z))
theorem big_L0 (r : Der → Int → Option Int) (v : Der) (hr : ∀ t ∈ Tree.kids v, ∀ a, 0 ≤ a → a ≤ 600 → ∃ z, r t a = some z ∧ BigR t a z) :
    ∀ (m i k : Nat) (x : Int), (x + 1).toNat ≤ m → m < k → i ≤ (Tree.kids v).length → i ≤ 100000 - m → m ≤ 601 → -200000 ≤ x → x ≤ 600 → ∃ z, ref13_Big.L0 r v k x (i : Int) = some z ∧ -200000 ≤ z ∧ z ≤ x ∧ (0 ≤ z → (tots ((Tree.kids v).drop i) : Int) ≤ 200 * (x - z))
  | m, i, 0, x, _, hk, _, _, _, _, _ => by omega
  | m, i, k + 1, x, hm, hk, hi, hi2, hm6, hx0, hx1 => by
    rw [ref13_Big.L0]
    by_cases c : i < (Tree.kids v).length
    · have c' : (i : Int) < ((Tree.kids v).length : Int) := by omega
      by_cases c2 : 0 ≤ x
      · simp only [c', c2, decide_true, if_true, Option.bind_some, nmE, Int.toNat_natCast]
        obtain ⟨z, e, hz0, hz1, hz2⟩ := hr _ (getD_mem (d := Der.dflt) c) x c2 hx1
        rw [rq (show (0 : Int) ≤ (i : Int) by omega), reqTT, e, Option.bind_some, show IntKind.i64.wrap ((i : Int) + 1) = ((i + 1 : Nat) : Int) by rw [w64 (by omega) (by omega)]; omega]
        obtain ⟨z', e', h0', h1', h2'⟩ := big_L0 r v hr (m - 1) (i + 1) k z (by omega) (by omega) (by omega) (by omega) (by omega) hz0 (by omega)
        refine ⟨z', e', h0', by omega, fun h => ?_⟩
        have hd : (Tree.kids v).drop i = (Tree.kids v).getD i Der.dflt :: (Tree.kids v).drop (i + 1) := by
          rw [List.drop_eq_getElem_cons c]; simp [List.getElem?_eq_getElem c]
        rw [hd, tots]
        have := hz2 (by omega)
        have := h2' h
        omega
      · simp only [c', c2, decide_true, decide_false, if_true, Option.bind_some, Bool.false_eq_true, if_false]
        exact ⟨x, rfl, hx0, Int.le_refl _, fun h => absurd h c2⟩
    · have c' : ¬ (i : Int) < ((Tree.kids v).length : Int) := by omega
      simp only [c', decide_false, Bool.false_eq_true, if_false, Option.bind_some]
      refine ⟨x, rfl, hx0, Int.le_refl _, fun _ => ?_⟩
      rw [List.drop_eq_nil_of_le (by omega), tots]; omega
theorem big_total : ∀ (k : Nat) (v : Der) (a : Int), Tree.depth v ≤ k → 0 ≤ a → a ≤ 600 → ∃ z, ref13_Big.f k v a = some z ∧ BigR v a z
  | 0, v, a, h, _, _ => by have := depth_pos v; omega
  | k + 1, v, a, h, h0, h1 => by
    have hr : ∀ t ∈ Tree.kids v, ∀ a, 0 ≤ a → a ≤ 600 → ∃ z, ref13_Big.f k t a = some z ∧ BigR t a z := fun t ht a ha0 ha1 => big_total k t a (by have := depth_kid ht; omega) ha0 ha1
    have hv := tot_eq v
    unfold ref13_Big.f ref13_Big.F
    have q : ∀ n : Nat, ∃ m : Nat, (if 100000 < (n : Int) then 100000 else (n : Int)) = (m : Int) ∧ m ≤ 100000 ∧ (m < 100000 → m = n) := fun n => by
      by_cases c : 100000 < (n : Int)
      · exact ⟨100000, by rw [if_pos c]; rfl, by omega, fun h => by omega⟩
      · exact ⟨n, by rw [if_neg c], by omega, fun _ => rfl⟩
    obtain ⟨b, eb, hb, hb'⟩ := q (Der.bytes v).length
    obtain ⟨t, et, ht, ht'⟩ := q (Der.text v).length
    obtain ⟨c, ec, hc, hc'⟩ := q (Der.arcs v).length
    simp only [nmE, eb, et, ec]
    rw [show Int.tdiv (b : Int) 64 = ((b / 64 : Nat) : Int) from td b 64, show Int.tdiv (t : Int) 64 = ((t / 64 : Nat) : Int) from td t 64]
    rw [w64 (n := a - 1) (by omega) (by omega), w64 (n := ((b / 64 : Nat) : Int)) (by omega) (by omega), w64 (n := ((t / 64 : Nat) : Int)) (by omega) (by omega), w64 (n := a - 1 - ((b / 64 : Nat) : Int)) (by omega) (by omega), w64 (n := a - 1 - ((b / 64 : Nat) : Int) - ((t / 64 : Nat) : Int)) (by omega) (by omega), w64 (n := a - 1 - ((b / 64 : Nat) : Int) - ((t / 64 : Nat) : Int) - (c : Int)) (by omega) (by omega)]
    generalize hx : a - 1 - ((b / 64 : Nat) : Int) - ((t / 64 : Nat) : Int) - (c : Int) = x
    obtain ⟨z, e, z0, z1, z2⟩ := big_L0 (ref13_Big.f k) v hr (x + 1).toNat 0 (x.toNat + 2) x (Nat.le_refl _) (by omega) (by omega) (by omega) (by omega) (by omega) (by omega)
    refine ⟨z, ?_, z0, by omega, fun hz => ?_⟩
    · rw [show (0 : Int) = ((0 : Nat) : Int) from rfl, e]; rfl
    · have := z2 hz
      rw [List.drop_zero] at this
      have e1 := hb' (by omega)
      have e2 := ht' (by omega)
      have e3 := hc' (by omega)
      omega
end Go.Proofs.YtjhknfpociahoaaDoor
