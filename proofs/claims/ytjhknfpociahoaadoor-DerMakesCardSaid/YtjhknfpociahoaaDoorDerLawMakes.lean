import Derived.Test.YtjhknfpociahoaaDoorDerL17
import Derived.Test.YtjhknfpociahoaaDoorDerMk
namespace Go.Proofs.YtjhknfpociahoaaDoor
open Go Go.HW Go.RowKit
set_option linter.unusedVariables false
set_option linter.unusedSimpArgs false

theorem few2_eq (v : Der) : ∃ q, law13_few.f v = some q ∧ (q = true → tot v ≤ 120000) := by
  obtain ⟨z, e, z0, z1, z2⟩ := big_total (Der.fuel v) v 600 (Nat.le_refl _) (by decide) (by decide)
  refine ⟨decide (0 ≤ z), by unfold law13_few.f; rw [e]; rfl, fun h => ?_⟩
  have := z2 (of_decide_eq_true h)
  have := of_decide_eq_true h
  omega
theorem makes_L0 : ∀ (m i : Nat) (k : Nat) (y : List Int), y.length - i ≤ m → m < k → i ≤ y.length → y.length ≤ 1048576 → ∃ z, law13_DerMakes.L0 k y (i : Int) = some z
  | m, i, 0, y, _, hk, _, _ => by omega
  | m, i, k + 1, y, hm, hk, hi, hy => by
    rw [law13_DerMakes.L0]
    by_cases c : i < y.length
    · rw [if_pos (by simp; omega), rq (by omega), rq (by omega), nmE, suc c hy]
      exact makes_L0 (m - 1) (i + 1) k _ (by simp; omega) (by omega) (by simp; omega) (by simpa using hy)
    · rw [if_neg (by simp; omega)]; exact ⟨_, rfl⟩
theorem makes_L1 : ∀ (m i : Nat) (k : Nat) (y : List Int), y.length - i ≤ m → m < k → i ≤ y.length → y.length ≤ 1048576 → ∃ z, law13_DerMakes.L1 k y (i : Int) = some z
  | m, i, 0, y, _, hk, _, _ => by omega
  | m, i, k + 1, y, hm, hk, hi, hy => by
    rw [law13_DerMakes.L1]
    by_cases c : i < y.length
    · rw [if_pos (by simp; omega), rq (by omega), rq (by omega), nmE, suc c hy]
      exact makes_L1 (m - 1) (i + 1) k _ (by simp; omega) (by omega) (by simp; omega) (by simpa using hy)
    · rw [if_neg (by simp; omega)]; exact ⟨_, rfl⟩
theorem same_self {v : Der} (h : tot v ≤ 1048576) (hv : DOk v) : ref13_Same.f (Der.fuel v) v v = some true := by
  rw [show ref13_Same.f (Der.fuel v) v v = some (eqD v v) from rsame _ v v (Nat.le_refl _) h hv hv, eqD_self]
theorem DerMakes_law {n t : Int} {s : List UInt8} {b arcs : List Int} {v w : Der} (hn : I64 n) (ht : I64 t) (hb : U8L b) (ha : U64L arcs) (hv : DOk v) (hw : DOk w) : law13_DerMakes.f n s b arcs v w t = some true := by
  unfold law13_DerMakes.f
  obtain ⟨p, e1, h1⟩ := few2_eq v
  obtain ⟨q, e2, h2⟩ := few2_eq w
  rw [e1, e2, known_eq]
  simp only [Option.bind_some]
  by_cases c1 : 3000 < (s.length : Int)
  · simp [c1]
  by_cases c2 : 3000 < (b.length : Int)
  · simp [c1, c2]
  by_cases c3 : 100 < (arcs.length : Int)
  · simp [c1, c2, c3]
  cases p with
  | false => simp [c1, c2, c3]
  | true =>
  cases q with
  | false => simp [c1, c2, c3]
  | true =>
  have t1 := h1 rfl
  have t2 := h2 rfl
  have hno8 : U8L ([] : List Int) := fun x hx => by cases hx
  have hno64 : U64L ([] : List Int) := fun x hx => by cases hx
  have hnok : ∀ t ∈ ([] : List Der), DOk t := fun x hx => by cases hx
  obtain ⟨z0, f0⟩ := makes_L0 b.length 0 ((b.length : Int).toNat + 1) b (by omega) (by omega) (by omega) (by omega)
  obtain ⟨z1, f1⟩ := makes_L1 arcs.length 0 ((arcs.length : Int).toNat + 1) arcs (by omega) (by omega) (by omega) (by omega)
  have g0 : law13_DerMakes.L0 ((b.length : Int).toNat + 1) b 0 = some z0 := f0
  have g1 : law13_DerMakes.L1 ((arcs.length : Int).toNat + 1) arcs 0 = some z1 := f1
  have m0 : der_Octets.f b = some (Der.mk 4 false 0 b [] [] []) := by
    unfold der_Octets.f slices_Clone_41.f; rw [rq (by simp; omega)]; rfl
  have m1 : der_Bits.f b = some (Der.mk 3 false 0 b [] [] []) := by
    unfold der_Bits.f slices_Clone_41.f; rw [rq (by simp; omega)]; rfl
  have m2 : der_Oid.f arcs = some (Der.mk 5 false 0 [] [] arcs []) := by
    unfold der_Oid.f slices_Clone_42.f; rw [rq (by simp; omega)]; rfl
  have m3 : der_Seq.f [v, w] = some (Der.mk 7 false 0 [] [] [] [v, w]) := by
    unfold der_Seq.f slices_Clone_40.f; rw [rq (by simp)]; rfl
  have s0 := same_self (v := Der.mk 2 false n [] [] [] []) (by rw [tot_eq]; show 1 + 0 + 0 + 0 + tots [] ≤ _; rw [tots]; omega) (mk_ok (by omega) hn hno8 hno64 hnok)
  have s1 := same_self (v := Der.mk 6 false 0 [] s [] []) (by rw [tot_eq]; show 1 + 0 + s.length + 0 + tots [] ≤ _; rw [tots]; omega) (mk_ok (by omega) ⟨by decide, by decide⟩ hno8 hno64 hnok)
  have s2 := same_self (v := Der.mk 4 false 0 b [] [] []) (by rw [tot_eq]; show 1 + b.length + 0 + 0 + tots [] ≤ _; rw [tots]; omega) (mk_ok (by omega) ⟨by decide, by decide⟩ hb hno64 hnok)
  have s3 := same_self (v := Der.mk 3 false 0 b [] [] []) (by rw [tot_eq]; show 1 + b.length + 0 + 0 + tots [] ≤ _; rw [tots]; omega) (mk_ok (by omega) ⟨by decide, by decide⟩ hb hno64 hnok)
  have s4 := same_self (v := Der.mk 5 false 0 [] [] arcs []) (by rw [tot_eq]; show 1 + 0 + 0 + arcs.length + tots [] ≤ _; rw [tots]; omega) (mk_ok (by omega) ⟨by decide, by decide⟩ hno8 ha hnok)
  have s5 := same_self (v := Der.mk 7 false 0 [] [] [] [v, w]) (by rw [tot_eq]; show 1 + 0 + 0 + 0 + tots [v, w] ≤ _; rw [tots, tots, tots]; omega) (mk_ok (by omega) ⟨by decide, by decide⟩ hno8 hno64 (by
    intro x hx
    rcases List.mem_cons.1 hx with rfl | hx
    · exact hv
    · rcases List.mem_cons.1 hx with rfl | hx
      · exact hw
      · cases hx))
  have s6 := same_self (v := Der.mk 8 false t [] [] [] [v]) (by rw [tot_eq]; show 1 + 0 + 0 + 0 + tots [v] ≤ _; rw [tots, tots]; omega) (mk_ok (by omega) ht hno8 hno64 (by
    intro x hx
    rcases List.mem_cons.1 hx with rfl | hx
    · exact hv
    · cases hx))
  have s7 := same_self (v := Der.mk 9 false 0 [] [] [] [w]) (by rw [tot_eq]; show 1 + 0 + 0 + 0 + tots [w] ≤ _; rw [tots, tots]; omega) (mk_ok (by omega) ⟨by decide, by decide⟩ hno8 hno64 (by
    intro x hx
    rcases List.mem_cons.1 hx with rfl | hx
    · exact hw
    · cases hx))
  simp only [c1, c2, c3, decide_false, decide_true, Bool.false_eq_true, if_false, if_true, Option.bind_some, Bool.not_true]
  rw [rq (by omega), m0, Option.bind_some, m1, Option.bind_some, rq (by omega), m2, Option.bind_some, m3, Option.bind_some, g0, Option.bind_some, g1, Option.bind_some, rq (by simp)]
  rw [show der_Int.f n = some (Der.mk 2 false n [] [] [] []) from rfl, show der_Text.f s = some (Der.mk 6 false 0 [] s [] []) from rfl, show der_Tag.f t v = some (Der.mk 8 false t [] [] [] [v]) from rfl, show der_Set.f w = some (Der.mk 9 false 0 [] [] [] [w]) from rfl]
  simp only [Option.bind_some, s0, s1, s2, s3, s4, s5, s6, s7, if_true]
end Go.Proofs.YtjhknfpociahoaaDoor
