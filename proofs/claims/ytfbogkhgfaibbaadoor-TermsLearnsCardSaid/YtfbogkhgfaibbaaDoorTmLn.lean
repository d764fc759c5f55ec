import Derived.Test.YtfbogkhgfaibbaaDoorTmKeys3
import Derived.Test.YtfbogkhgfaibbaaDoorTf1
namespace Go.Proofs.YtfbogkhgfaibbaaDoor
open Go Go.HW Go.RowKit
set_option linter.unusedVariables false
set_option linter.unusedSimpArgs false

/-! ### terms.Learn, at terms that fit -/
theorem ordr_parts {k : K2} {a b : U} (h : (U.bi k a b).ordr = .bi k a b) (hk : k ≠ .shared) : a.ordr = a ∧ b.ordr = b := by
  rw [ordr_bi, if_neg (fun hh => hk hh.1)] at h
  injection h with _ h1 h2
  exact ⟨h1, h2⟩
theorem der_ordr {us : List U} {u : U} (h : Der (fun x => ∃ y ∈ us, x = U.ordr y) u) : u.ordr = u :=
  h (fun u => u.ordr = u) (fun u ⟨y, _, e⟩ => by rw [e, ordr_idem]) fun u hu p hp => by
    cases u with
    | bi k a b =>
      cases k
      case pair =>
        obtain ⟨h1, h2⟩ := ordr_parts hu (by decide)
        rcases hp with rfl | rfl <;> assumption
      case sign => obtain rfl : p = b := hp; exact (ordr_parts hu (by decide)).2
      case enc => obtain rfl : p = b := hp.2; exact (ordr_parts hu (by decide)).2
      all_goals exact hp.elim
    | _ => exact hp.elim
theorem learn_mem {us : List U} {u : U} : u ∈ learnU us ↔ Der (fun x => ∃ y ∈ us, x = U.ordr y) u := by
  have hl := learnU_ok us
  rw [hl.1.all hl.2, base_iff]
theorem learn_ordr {us : List U} {u : U} (h : u ∈ learnU us) : u.ordr = u := der_ordr (learn_mem.1 h)
theorem learn_fit {us : List U} (h : ∀ u ∈ us, Fit u) {u : U} (hu : u ∈ learnU us) : Fit u := univ_ok (base_ok h) ((learnU_ok us).1.sub u hu)
/-- What is learned, by text. -/
def learnS (us : List U) : List U := (learnU us).mergeSort fun x y => decide (x.txt ≤ y.txt)
theorem learnS_perm (us : List U) : (learnS us).Perm (learnU us) := List.mergeSort_perm _ _
theorem learnS_txt (us : List U) : (learnS us).map U.txt = keysT (toKM (learnU us)) := by
  have hle : ∀ a b c : List UInt8, decide (a ≤ b) = true → decide (b ≤ c) = true → decide (a ≤ c) = true := fun a b c h1 h2 => by
    simp only [decide_eq_true_eq] at *; exact List.le_trans h1 h2
  have htot : ∀ a b : List UInt8, (decide (a ≤ b) || decide (b ≤ a)) = true := fun a b => by
    simp only [Bool.or_eq_true, decide_eq_true_eq]; exact List.le_total a b
  have h1 := List.pairwise_mergeSort (le := fun x y : U => decide (x.txt ≤ y.txt)) (fun a b c => hle _ _ _) (fun a b => htot _ _) (learnU us)
  have h2 := List.pairwise_mergeSort (le := fun x y : List UInt8 => decide (x ≤ y)) hle htot ((toKM (learnU us)).map Prod.fst)
  have e : (toKM (learnU us)).map Prod.fst = (learnU us).map U.txt := by unfold toKM; rw [List.map_map]; rfl
  refine List.Perm.eq_of_pairwise (le := fun a b => decide (a ≤ b) = true) (fun a b _ _ h1 h2 => ?_) (List.pairwise_map.2 h1) h2 ?_
  · simp only [decide_eq_true_eq] at h1 h2; exact List.le_antisymm h1 h2
  · unfold keysT sortedT
    rw [e]
    exact ((learnS_perm us).map _).trans (List.mergeSort_perm _ _).symm
theorem Learn_L0 {us : List U} (h : ∀ u ∈ us, Fit u) (hl : us.length ≤ 500) : ∀ (k i : Nat) (y : List Tm), (learnS us).length - i < k → i ≤ (learnS us).length → y.length = i → terms_Learn.L0 (toKM (learnU us)) ((learnS us).map U.txt) k y (i : Int) = some (y ++ ((learnS us).drop i).map U.tm)
  | 0, i, y, hk, _, _ => by omega
  | k + 1, i, y, hk, hi, hy => by
    have hlen : (learnS us).length ≤ 1000000 := by
      rw [(learnS_perm us).length_eq]
      have h1 := (learnU_ok us).1.len
      have h2 := univ_len (base_ok h)
      have h3 := baseU_len (us := us) (K := [])
      simp at h3; omega
    rw [terms_Learn.L0]
    by_cases c : i < (learnS us).length
    · have c' : (i : Int) < (((learnS us).map U.txt).length : Int) := by simp; omega
      have hm : (learnS us)[i] ∈ learnU us := (learnS_perm us).mem_iff.1 (List.getElem_mem c)
      have hf := learn_fit h hm
      have hg : ((learnS us).map U.txt).getD i [] = ((learnS us)[i]).txt := by simp [c]
      simp only [c', decide_true, if_true, nm, Int.toNat_natCast]
      rw [reqT (show (0 : Int) ≤ (i : Int) by omega), reqT trivial, hg, kget_u (learn_kok h) hf.1, if_pos hm]
      show Option.bind (terms_order.f (Tm.fuel ((learnS us)[i]).tm) ((learnS us)[i]).tm) _ = _
      rw [orderd hf.1 (by have := hf.2; omega), Option.bind_some, learn_ordr hm, reqT (by simp; omega), wrap_succ (by omega)]
      rw [Learn_L0 h hl k (i + 1) _ (by omega) (by omega) (by simp; omega), List.drop_eq_getElem_cons c]
      simp only [List.map_cons, List.append_assoc, List.cons_append, List.nil_append]
    · have c' : ¬ (i : Int) < (((learnS us).map U.txt).length : Int) := by simp; omega
      simp only [c', decide_false, Bool.false_eq_true, if_false]
      rw [List.drop_eq_nil_of_le (by omega)]; simp
theorem Learn_u {us : List U} (h : ∀ u ∈ us, Fit u) (hl : us.length ≤ 500) : terms_Learn.f (us.map U.tm) = some ((learnS us).map U.tm, 0) := by
  have hlen : (toKM (learnU us)).length ≤ 1099511627776 := by
    have h1 := (learnU_ok us).1.len
    have h2 := univ_len (base_ok h)
    have h3 := baseU_len (us := us) (K := [])
    simp [toKM] at h3 ⊢; omega
  unfold terms_Learn.f
  rw [may_all hl h, Option.bind_some, ff (by rfl), learn_u hl h, Option.bind_some]
  show Option.bind (tm_sorted.f (toKM (learnU us))) _ = _
  unfold tm_sorted.f
  rw [if_pos hlen, Option.bind_some, ← learnS_txt]
  rw [show (0 : Int) = ((0 : Nat) : Int) from rfl, Learn_L0 h hl _ 0 [] (by simp) (Nat.zero_le _) rfl]
  simp
end Go.Proofs.YtfbogkhgfaibbaaDoor
