import Derived.Test.YtfbogkhgfaibbaaDoorTmY
import Derived.Test.YtfbogkhgfaibbaaDoorTg1
section
namespace Go.Proofs.YtfbogkhgfaibbaaDoor
open Go Go.HW Go.RowKit
set_option linter.unusedVariables false
set_option linter.unusedSimpArgs false

/-! ### what may be handed in -/
theorem TOk_u : ∀ {u : U}, u.ok → TOk u.tm
  | .d n, h => by
    have h1 := h.1; have h2 := h.2
    rw [TOk_iff]; exact ⟨⟨by show (-9223372036854775808 : Int) ≤ 1; decide, by show (1 : Int) ≤ _; decide⟩, ⟨by show _ ≤ n; omega, by show n ≤ _; omega⟩, fun t ht => by cases ht⟩
  | .s n, h => by
    have h1 := h.1; have h2 := h.2
    rw [TOk_iff]; exact ⟨⟨by show (-9223372036854775808 : Int) ≤ 2; decide, by show (2 : Int) ≤ _; decide⟩, ⟨by show _ ≤ n; omega, by show n ≤ _; omega⟩, fun t ht => by cases ht⟩
  | .un k a, h => by
    have ha := TOk_u (u := a) h
    rw [TOk_iff]
    refine ⟨?_, ⟨by show (-9223372036854775808 : Int) ≤ 0; decide, by show (0 : Int) ≤ _; decide⟩, fun t ht => ?_⟩
    · show i64 k.num; unfold i64; cases k <;> decide
    · rw [show t = a.tm by simpa [U.tm, kids_mk] using ht]; exact ha
  | .bi k a b, h => by
    have ha := TOk_u h.1
    have hb := TOk_u h.2
    rw [TOk_iff]
    refine ⟨?_, ⟨by show (-9223372036854775808 : Int) ≤ 0; decide, by show (0 : Int) ≤ _; decide⟩, fun t ht => ?_⟩
    · show i64 k.num; unfold i64; cases k <;> decide
    · rcases (show t = a.tm ∨ t = b.tm by simpa [U.tm, kids_mk] using ht) with rfl | rfl <;> assumption
abbrev Fit (u : U) : Prop := u.ok ∧ u.size ≤ 2000
theorem mayR_u {u : U} (h : Fit u) : ref29_May.f u.tm = some true := by
  unfold ref29_May.f
  have hz := tsz_u u
  have h2 := h.2
  rw [sized u.tm (by decide) (by decide), Option.bind_some]
  have e : szTo u.tm 2000 = (u.size : Int) := by unfold szTo; rw [hz, if_pos (by omega)]
  rw [e]
  have c : (decide ((u.size : Int) ≤ 2000)) = true := by simp; omega
  rw [tt c, form_u (Tm.fuel _) _ (Nat.le_refl _) (TOk_u h.1) (by omega)]
  rw [toU_of (k := Tm.fuel u.tm) h.1 (Nat.le_refl _)]; rfl
theorem mayR {t : Tm} (h : TOk t) : ∃ b, ref29_May.f t = some b ∧ (b = true → ∃ u, u.tm = t ∧ Fit u) := by
  unfold ref29_May.f
  rw [sized t (by decide) (by decide), Option.bind_some]
  by_cases c : (tsz t : Int) ≤ 2000
  · have e : szTo t 2000 = (tsz t : Int) := by unfold szTo; rw [if_pos c]
    rw [e, tt (by simpa using c), form_u (Tm.fuel _) _ (Nat.le_refl _) h (by omega)]
    refine ⟨_, rfl, fun hb => ?_⟩
    obtain ⟨u, hu⟩ := Option.isSome_iff_exists.1 hb
    obtain ⟨e1, e2⟩ := toU_tm hu
    refine ⟨u, e1, e2, ?_⟩
    have := tsz_u u
    rw [e1] at this; omega
  · have e : szTo t 2000 = 2000 + 1 := by unfold szTo; rw [if_neg c]
    rw [e]
    exact ⟨false, rfl, fun hb => by cases hb⟩
/-! #### the program's May -/
theorem fits_u : ∀ {u : U}, u.ok → ∀ {k : Nat} {b : Int}, u.tm.depth ≤ k → (u.size : Int) ≤ b → b ≤ 100000 → terms_fits.f k u.tm b = some (true, b - u.size) := by
  intro u
  induction u with
  | d n =>
    intro h k b hk hb hb2
    cases k with
    | zero => simp [U.tm, depth_leaf] at hk
    | succ k =>
      simp only [U.size] at hb ⊢
      have h1 := h.1
      show terms_fits.F _ (Tm.mk 1 n []) b = _
      unfold terms_fits.F
      simp only [kind_mk, num_mk, kids_mk]
      rw [w64 (n := b - 1) (by omega) (by omega)]
      have e1 : fmIs 1 = true := by decide
      have e2 : fmArgs 1 = 0 := by decide
      simp [e1, e2, nm, show ¬ b - 1 < 0 by omega, show ¬ n < 0 by omega, terms_fits.L0, kids_mk, onw]
  | s n =>
    intro h k b hk hb hb2
    cases k with
    | zero => simp [U.tm, depth_leaf] at hk
    | succ k =>
      simp only [U.size] at hb ⊢
      have h1 := h.1
      show terms_fits.F _ (Tm.mk 2 n []) b = _
      unfold terms_fits.F
      simp only [kind_mk, num_mk, kids_mk]
      rw [w64 (n := b - 1) (by omega) (by omega)]
      have e1 : fmIs 2 = true := by decide
      have e2 : fmArgs 2 = 0 := by decide
      simp [e1, e2, nm, show ¬ b - 1 < 0 by omega, show ¬ n < 0 by omega, terms_fits.L0, kids_mk, onw]
  | un c a ih =>
    intro h k b hk hb hb2
    cases k with
    | zero => rw [U.tm, depth_un] at hk; omega
    | succ k =>
      rw [U.tm, depth_un] at hk
      simp only [U.size] at hb ⊢
      have ha := ih h (k := k) (b := b - 1) (by omega) (by omega) (by omega)
      show terms_fits.F (terms_fits.f k) (Tm.mk c.num 0 [a.tm]) b = _
      unfold terms_fits.F
      simp only [kind_mk, num_mk, kids_mk]
      rw [w64 (n := b - 1) (by omega) (by omega)]
      have e1 : fmIs c.num = true := by cases c <;> decide
      have e2 : fmArgs c.num = 1 := by cases c <;> decide
      simp [e1, e2, nm, req, show ¬ b - 1 < 0 by omega, terms_fits.L0, kids_mk, onw, ha, wrap1]
      omega
  | bi c a b2 iha ihb =>
    intro h k b hk hb hb2
    cases k with
    | zero => rw [U.tm] at hk; have := depth_bi c.num 0 a.tm b2.tm; omega
    | succ k =>
      rw [U.tm] at hk
      have hd := depth_bi c.num 0 a.tm b2.tm
      simp only [U.size] at hb ⊢
      have ha := iha h.1 (k := k) (b := b - 1) (by omega) (by omega) (by omega)
      have hb' := ihb h.2 (k := k) (b := b - 1 - a.size) (by omega) (by omega) (by omega)
      show terms_fits.F (terms_fits.f k) (Tm.mk c.num 0 [a.tm, b2.tm]) b = _
      unfold terms_fits.F
      simp only [kind_mk, num_mk, kids_mk]
      rw [w64 (n := b - 1) (by omega) (by omega)]
      have e1 : fmIs c.num = true := by cases c <;> decide
      have e2 : fmArgs c.num = 2 := by cases c <;> decide
      simp [e1, e2, nm, req, show ¬ b - 1 < 0 by omega, terms_fits.L0, kids_mk, onw, ha, hb', wrap1, wrap2]
      omega
theorem may_u {u : U} (h : Fit u) : terms_May.f u.tm = some true := by
  have h2 := h.2
  unfold terms_May.f
  show Option.bind (terms_fits.f (Tm.fuel u.tm) u.tm 2000) _ = _
  rw [fits_u (k := Tm.fuel u.tm) h.1 (Nat.le_refl _) (by omega) (by decide)]; rfl
/-! #### Can -/
/-- u can be made out of these. -/
def Known2 (us : List U) (v : U) : Prop := Syn (Der fun x => ∃ y ∈ us, x = y.ordr) v
end Go.Proofs.YtfbogkhgfaibbaaDoor
end

section
namespace Go.Proofs.YtfbogkhgfaibbaaDoor
open Go Go.HW Go.RowKit
set_option linter.unusedVariables false
set_option linter.unusedSimpArgs false

theorem fmIs_range {c : Int} (h : fmIs c = true) : c = 1 ∨ c = 2 ∨ c = 3 ∨ c = 4 ∨ c = 5 ∨ c = 6 ∨ c = 7 ∨ c = 8 ∨ c = 9 := by
  unfold fmIs at h
  simp only [fmT, fmFind] at h
  by_cases h1 : c = 1
  · exact .inl h1
  by_cases h2 : c = 2
  · exact .inr (.inl h2)
  by_cases h3 : c = 3
  · simp [h3]
  by_cases h4 : c = 4
  · simp [h4]
  by_cases h5 : c = 5
  · simp [h5]
  by_cases h6 : c = 6
  · simp [h6]
  by_cases h7 : c = 7
  · simp [h7]
  by_cases h8 : c = 8
  · simp [h8]
  by_cases h9 : c = 9
  · simp [h9]
  simp [h1, h2, h3, h4, h5, h6, h7, h8, h9] at h
def FitsR (k : Nat) (v : Tm) (b : Int) : Prop := ∃ q r, terms_fits.f k v b = some (q, r) ∧ -1 ≤ r ∧ r ≤ b ∧ (q = true → 0 ≤ r ∧ ∃ u, toU k v = some u ∧ r = b - u.size)
theorem fits_any : ∀ (k : Nat) (v : Tm) (b : Int), Tree.depth v ≤ k → TOk v → 0 ≤ b → b ≤ 100000 → FitsR k v b
  | 0, v, b, h, _, _, _ => by have := tdepth_pos v; omega
  | k + 1, v, b, h, ho, h0, h1 => by
    have hr : ∀ t ∈ Tree.kids v, ∀ b, 0 ≤ b → b ≤ 100000 → FitsR k t b := fun t ht b hb0 hb1 => fits_any k t b (by have := tdepth_kid ht; omega) (((TOk_iff v).1 ho).2.2 t ht) hb0 hb1
    have ho' := (TOk_iff v).1 ho
    unfold FitsR
    show ∃ q r, terms_fits.F (terms_fits.f k) v b = some (q, r) ∧ _
    match v, ho', hr with
    | .node (c, n) ks, ho', hr =>
      have hn : i64 n := ho'.2.1
      have hkd : Tm.kind (Tree.node (c, n) ks) = c := rfl
      have hnm : Tm.num (Tree.node (c, n) ks) = n := rfl
      have hks : Tree.kids (Tree.node (c, n) ks) = ks := rfl
      unfold terms_fits.F
      simp only [hkd, hnm, hks]
      rw [w64 (n := b - 1) (by omega) (by omega)]
      cases hc : fmIs c with
      | false => exact ⟨false, b - 1, by simp, by omega, by omega, fun h => by cases h⟩
      | true =>
        by_cases hb : b - 1 < 0
        · exact ⟨false, b - 1, by simp [hb], by omega, by omega, fun h => by cases h⟩
        · by_cases hl : (ks.length : Int) = fmArgs c
          · by_cases n0 : n < 0
            · exact ⟨false, b - 1, by simp [hb, hl, nm, n0], by omega, by omega, fun h => by cases h⟩
            · by_cases n1 : n ≠ 0 ∧ 0 < fmArgs c
              · exact ⟨false, b - 1, by simp [hb, hl, nm, n0, n1.1, n1.2], by omega, by omega, fun h => by cases h⟩
              · have e : ∀ x : Option (Bool × Int), ((if (!true) = true then some true else some (decide (b - 1 < 0))).bind fun q4 => (if q4 = true then some true else nm ((ks.length : Int) != fmArgs c) fun t19 => some t19).bind fun q12 => (if q12 = true then some true else some (decide (n < 0))).bind fun q23 => (if q23 = true then some true else (if (n != 0) = true then some (decide (0 < fmArgs c)) else some false).bind fun q39 => some q39).bind fun q31 => if q31 = true then some (false, b - 1) else x) = x := fun x => by
                  by_cases n2 : n = 0
                  · simp [hb, hl, nm, n0, n2]
                  · have : ¬ 0 < fmArgs c := fun h => n1 ⟨n2, h⟩
                    simp [hb, hl, nm, n0, n2, this]
                rw [e]
                have hn' : 0 ≤ n ∧ n ≤ 9223372036854775807 := ⟨by omega, hn.2⟩
                match ks, hl, hr with
                | [], hl, hr =>
                  have hL : terms_fits.L0 (terms_fits.f k) (Tree.node (c, n) []) ((((([] : List Tm).length : Int))).toNat + 1) (b - 1) 0 = some (.inl (b - 1)) := by
                    show terms_fits.L0 (terms_fits.f k) (Tree.node (c, n) []) 1 (b - 1) 0 = _
                    simp [terms_fits.L0, nm, Tree.kids]
                  rw [hL]
                  rcases fmIs_range hc with rfl | rfl | rfl | rfl | rfl | rfl | rfl | rfl | rfl
                  · exact ⟨true, b - 1, rfl, by omega, by omega, fun _ => ⟨by omega, .d n, by simp [toU, hn'], by simp [U.size]⟩⟩
                  · exact ⟨true, b - 1, rfl, by omega, by omega, fun _ => ⟨by omega, .s n, by simp [toU, hn'], by simp [U.size]⟩⟩
                  all_goals exact absurd hl (by show ¬ (0 : Int) = _; decide)
                | [a], hl, hr =>
                  obtain ⟨qa, ra, ea, a1, a2, a3⟩ := hr a (by simp [Tree.kids]) (b - 1) (by omega) (by omega)
                  have hL : terms_fits.L0 (terms_fits.f k) (Tree.node (c, n) [a]) ((((([a] : List Tm).length : Int))).toNat + 1) (b - 1) 0 = some (if qa then .inl ra else .inr (false, ra)) := by
                    show terms_fits.L0 (terms_fits.f k) (Tree.node (c, n) [a]) 2 (b - 1) 0 = _
                    cases qa <;> simp [terms_fits.L0, nm, req, Tree.kids, ea, wrap1]
                  rw [hL]
                  cases qa with
                  | false => exact ⟨false, ra, rfl, a1, by omega, fun h => by cases h⟩
                  | true =>
                    obtain ⟨a4, u, a5, a6⟩ := a3 rfl
                    have hn0 : n = 0 := Classical.byContradiction fun h => n1 ⟨h, by rw [← hl]; simp⟩
                    subst hn0
                    rcases fmIs_range hc with rfl | rfl | rfl | rfl | rfl | rfl | rfl | rfl | rfl
                    case inr.inr.inl => exact ⟨true, ra, rfl, a1, by omega, fun _ => ⟨a4, .un .pub u, by simp [toU, a5], by simp [U.size]; omega⟩⟩
                    case inr.inr.inr.inr.inr.inr.inr.inr => exact ⟨true, ra, rfl, a1, by omega, fun _ => ⟨a4, .un .hash u, by simp [toU, a5], by simp [U.size]; omega⟩⟩
                    all_goals exact absurd hl (by show ¬ (1 : Int) = _; decide)
                | [a, a'], hl, hr =>
                  obtain ⟨qa, ra, ea, a1, a2, a3⟩ := hr a (by simp [Tree.kids]) (b - 1) (by omega) (by omega)
                  cases qa with
                  | false =>
                    have hL : terms_fits.L0 (terms_fits.f k) (Tree.node (c, n) [a, a']) ((((([a, a'] : List Tm).length : Int))).toNat + 1) (b - 1) 0 = some (.inr (false, ra)) := by
                      show terms_fits.L0 (terms_fits.f k) (Tree.node (c, n) [a, a']) 3 (b - 1) 0 = _
                      simp [terms_fits.L0, nm, req, Tree.kids, ea, wrap1]
                    rw [hL]
                    exact ⟨false, ra, rfl, a1, by omega, fun h => by cases h⟩
                  | true =>
                    obtain ⟨a4, u, a5, a6⟩ := a3 rfl
                    obtain ⟨qb, rb, eb, b1, b2, b3⟩ := hr a' (by simp [Tree.kids]) ra a4 (by omega)
                    have hL : terms_fits.L0 (terms_fits.f k) (Tree.node (c, n) [a, a']) ((((([a, a'] : List Tm).length : Int))).toNat + 1) (b - 1) 0 = some (if qb then .inl rb else .inr (false, rb)) := by
                      show terms_fits.L0 (terms_fits.f k) (Tree.node (c, n) [a, a']) 3 (b - 1) 0 = _
                      cases qb <;> simp [terms_fits.L0, nm, req, Tree.kids, ea, eb, wrap1, wrap2]
                    rw [hL]
                    cases qb with
                    | false => exact ⟨false, rb, rfl, b1, by omega, fun h => by cases h⟩
                    | true =>
                      obtain ⟨b4, u2, b5, b6⟩ := b3 rfl
                      have hn0 : n = 0 := Classical.byContradiction fun h => n1 ⟨h, by rw [← hl]; simp⟩
                      subst hn0
                      rcases fmIs_range hc with rfl | rfl | rfl | rfl | rfl | rfl | rfl | rfl | rfl
                      case inr.inr.inr.inl => exact ⟨true, rb, rfl, b1, by omega, fun _ => ⟨b4, .bi .enc u u2, by simp [toU, a5, b5], by simp [U.size]; omega⟩⟩
                      case inr.inr.inr.inr.inl => exact ⟨true, rb, rfl, b1, by omega, fun _ => ⟨b4, .bi .sign u u2, by simp [toU, a5, b5], by simp [U.size]; omega⟩⟩
                      case inr.inr.inr.inr.inr.inl => exact ⟨true, rb, rfl, b1, by omega, fun _ => ⟨b4, .bi .mac u u2, by simp [toU, a5, b5], by simp [U.size]; omega⟩⟩
                      case inr.inr.inr.inr.inr.inr.inl => exact ⟨true, rb, rfl, b1, by omega, fun _ => ⟨b4, .bi .pair u u2, by simp [toU, a5, b5], by simp [U.size]; omega⟩⟩
                      case inr.inr.inr.inr.inr.inr.inr.inl => exact ⟨true, rb, rfl, b1, by omega, fun _ => ⟨b4, .bi .shared u u2, by simp [toU, a5, b5], by simp [U.size]; omega⟩⟩
                      all_goals exact absurd hl (by show ¬ (2 : Int) = _; decide)
                | a :: a' :: a'' :: r, hl, hr =>
                  exfalso
                  have : fmArgs c ≤ 2 := by rcases fmIs_range hc with rfl | rfl | rfl | rfl | rfl | rfl | rfl | rfl | rfl <;> decide
                  simp at hl; omega
          · exact ⟨false, b - 1, by simp [hb, hl, nm], by omega, by omega, fun h => by cases h⟩
/-- The program's May, at any term. -/
theorem may_any {t : Tm} (h : TOk t) : ∃ b, terms_May.f t = some b ∧ (b = true → ∃ u, u.tm = t ∧ Fit u) := by
  obtain ⟨q, r, e, h1, h2, h3⟩ := fits_any (Tm.fuel t) t 2000 (Nat.le_refl _) h (by decide) (by decide)
  refine ⟨q, ?_, fun hq => ?_⟩
  · unfold terms_May.f
    show Option.bind (terms_fits.f (Tm.fuel t) t 2000) _ = _
    rw [e]; rfl
  · obtain ⟨h4, u, h5, h6⟩ := h3 hq
    obtain ⟨e1, e2⟩ := toU_tm h5
    exact ⟨u, e1, e2, by omega⟩
end Go.Proofs.YtfbogkhgfaibbaaDoor
end

section
namespace Go.Proofs.YtfbogkhgfaibbaaDoor
open Go Go.HW Go.RowKit
set_option linter.unusedVariables false
set_option linter.unusedSimpArgs false
theorem known_law : law29_known.f = some true := by kernel_rfl

/-! ### TermsKeeps -/
def bareB (n : Int) : U → Bool
  | .s m => m == n
  | .bi .pair a b => bareB n a || bareB n b
  | .bi .enc _ b => bareB n b
  | .bi .sign _ b => bareB n b
  | _ => false
theorem bare_ordr {n : Int} : ∀ {u : U}, bareB n u.ordr = bareB n u
  | .d _ => rfl
  | .s _ => rfl
  | .un _ _ => rfl
  | .bi k a b => by
    have ha := bare_ordr (n := n) (u := a)
    have hb := bare_ordr (n := n) (u := b)
    rw [ordr_bi]
    split
    · rename_i h; rw [h.1]; rfl
    · cases k <;> simp [bareB, ha, hb]
theorem keeps {us : List U} {n : Int} (h : ∀ u ∈ us, bareB n u = false) : ¬ Known2 us (.s n) := fun hk => by
  have hd : Der (fun x => ∃ y ∈ us, x = y.ordr) (.s n) := hk
  have := hd (fun u => bareB n u = false) (fun u ⟨y, hy, e⟩ => by rw [e, bare_ordr]; exact h y hy) fun u hu p hp => by
    cases u with
    | bi k a b =>
      cases k
      case pair =>
        have hu : (bareB n a || bareB n b) = false := hu
        rw [Bool.or_eq_false_iff] at hu
        rcases hp with rfl | rfl
        · exact hu.1
        · exact hu.2
      case sign => obtain rfl : p = b := hp; exact hu
      case enc => obtain rfl : p = b := hp.2; exact hu
      all_goals exact hp.elim
    | _ => exact hp.elim
  simp [bareB] at this
end Go.Proofs.YtfbogkhgfaibbaaDoor
end

section
namespace Go.Proofs.YtfbogkhgfaibbaaDoor
open Go Go.HW Go.RowKit
set_option linter.unusedVariables false
set_option linter.unusedSimpArgs false

end Go.Proofs.YtfbogkhgfaibbaaDoor
end

section
namespace Go.Proofs.YtfbogkhgfaibbaaDoor
open Go Go.HW Go.RowKit
set_option linter.unusedVariables false
set_option linter.unusedSimpArgs false

/-! ### the reference's Text and Order at terms that fit -/
theorem rtext_u : ∀ {u : U}, u.ok → u.size ≤ 2000000 → ∀ {k : Nat}, u.tm.depth ≤ k → ref29_Text.f k u.tm = some u.txt := by
  intro u
  induction u with
  | d n =>
    intro h hs k hk
    cases k with
    | zero => simp [U.tm, depth_leaf] at hk
    | succ k =>
      have := U.txt_len (u := .d n) h
      have h1 := h.1; have h2 := h.2
      simp only [U.txt, U.size, List.length_cons] at this
      show ref29_Text.F _ (Tm.mk 1 n []) = _
      unfold ref29_Text.F
      simp only [kind_mk, num_mk, kids_mk, ref29_names.f, Option.bind_some]
      refine (reqT (by decide)).trans ?_
      refine (reqT (by decide)).trans ?_
      refine (tt (by simp)).trans ?_
      refine (reqT (by omega)).trans ?_
      refine (reqT h2).trans ?_
      exact reqT (by show 1 + (Lib.itoa n).length ≤ _; omega)
  | s n =>
    intro h hs k hk
    cases k with
    | zero => simp [U.tm, depth_leaf] at hk
    | succ k =>
      have := U.txt_len (u := .s n) h
      have h1 := h.1; have h2 := h.2
      simp only [U.txt, U.size, List.length_cons] at this
      show ref29_Text.F _ (Tm.mk 2 n []) = _
      unfold ref29_Text.F
      simp only [kind_mk, num_mk, kids_mk, ref29_names.f, Option.bind_some]
      refine (reqT (by decide)).trans ?_
      refine (reqT (by decide)).trans ?_
      refine (tt (by simp)).trans ?_
      refine (reqT (by omega)).trans ?_
      refine (reqT h2).trans ?_
      exact reqT (by show 1 + (Lib.itoa n).length ≤ _; omega)
  | un c a ih =>
    intro h hs k hk
    cases k with
    | zero => rw [U.tm, depth_un] at hk; omega
    | succ k =>
      rw [U.tm, depth_un] at hk
      simp only [U.size] at hs
      have ha := ih h (by omega) (k := k) (by omega)
      have hl := U.txt_len (u := a) h
      have hnl : c.name.length ≤ 6 := by cases c <;> decide
      show ref29_Text.F (ref29_Text.f k) (Tm.mk c.num 0 [a.tm]) = _
      unfold ref29_Text.F
      simp only [kind_mk, num_mk, kids_mk, ref29_names.f, Option.bind_some]
      refine (reqT (show 0 ≤ c.num by cases c <;> decide)).trans ?_
      refine (reqT (show c.num < 10 by cases c <;> decide)).trans ?_
      refine (ff (show decide (c.num ≤ 2) = false by cases c <;> decide)).trans ?_
      have e0 : ([([] : List UInt8), [100], [115], [112, 117, 98, 108, 105, 99], [115, 101, 97, 108], [115, 105, 103, 110], [109, 97, 99], [112, 97, 105, 114], [115, 104, 97, 114, 101, 100], [104, 97, 115, 104]] : List (List UInt8)).getD (c.num.toNat) [] = c.name := by cases c <;> rfl
      rw [e0]
      have e1 : ref29_Text.L0 (ref29_Text.f k) (Tm.mk c.num 0 [a.tm]) ((([a.tm].length : Int)).toNat + 1) c.name 0 = some (c.name ++ [40] ++ a.txt) := by
        show ref29_Text.L0 (ref29_Text.f k) (Tm.mk c.num 0 [a.tm]) 2 c.name 0 = _
        simp [ref29_Text.L0, nm, kids_mk, ha, wrap1]
        rw [reqT (by omega), Option.bind_some, reqT (by decide), reqT trivial, reqT (by simp; omega)]; simp
      rw [e1, Option.bind_some, reqT (by simp; omega)]; simp [U.txt]
  | bi c a b iha ihb =>
    intro h hs k hk
    cases k with
    | zero => rw [U.tm] at hk; have := depth_bi c.num 0 a.tm b.tm; omega
    | succ k =>
      rw [U.tm] at hk
      have hd := depth_bi c.num 0 a.tm b.tm
      simp only [U.size] at hs
      have ha := iha h.1 (by omega) (k := k) (by omega)
      have hb := ihb h.2 (by omega) (k := k) (by omega)
      have hl := U.txt_len (u := a) h.1
      have hl2 := U.txt_len (u := b) h.2
      have hnl : c.name.length ≤ 6 := by cases c <;> decide
      show ref29_Text.F (ref29_Text.f k) (Tm.mk c.num 0 [a.tm, b.tm]) = _
      unfold ref29_Text.F
      simp only [kind_mk, num_mk, kids_mk, ref29_names.f, Option.bind_some]
      refine (reqT (show 0 ≤ c.num by cases c <;> decide)).trans ?_
      refine (reqT (show c.num < 10 by cases c <;> decide)).trans ?_
      refine (ff (show decide (c.num ≤ 2) = false by cases c <;> decide)).trans ?_
      have e0 : ([([] : List UInt8), [100], [115], [112, 117, 98, 108, 105, 99], [115, 101, 97, 108], [115, 105, 103, 110], [109, 97, 99], [112, 97, 105, 114], [115, 104, 97, 114, 101, 100], [104, 97, 115, 104]] : List (List UInt8)).getD (c.num.toNat) [] = c.name := by cases c <;> rfl
      rw [e0]
      have e1 : ref29_Text.L0 (ref29_Text.f k) (Tm.mk c.num 0 [a.tm, b.tm]) ((([a.tm, b.tm].length : Int)).toNat + 1) c.name 0 = some (c.name ++ [40] ++ a.txt ++ [44] ++ b.txt) := by
        show ref29_Text.L0 (ref29_Text.f k) (Tm.mk c.num 0 [a.tm, b.tm]) 3 c.name 0 = _
        simp [ref29_Text.L0, nm, kids_mk, ha, hb, wrap1, wrap2]
        rw [reqT (by omega), Option.bind_some, reqT (by decide), reqT trivial, reqT (by simp; omega), reqT (by simp; omega), Option.bind_some, reqT (by decide), reqT trivial, reqT (by simp; omega)]; simp
      rw [e1, Option.bind_some, reqT (by simp; omega)]; simp [U.txt]
theorem rtextd {u : U} (h : u.ok) (hs : u.size ≤ 2000000) : ref29_Text.f (Tm.fuel u.tm) u.tm = some u.txt := rtext_u h hs (Nat.le_refl _)
theorem rorder_u : ∀ {u : U}, u.ok → u.size ≤ 2000000 → ∀ {k : Nat}, u.tm.depth ≤ k → ref29_Order.f k u.tm = some u.ordr.tm := by
  intro u
  induction u with
  | d n =>
    intro h hs k hk
    cases k with
    | zero => simp [U.tm, depth_leaf] at hk
    | succ k => rfl
  | s n =>
    intro h hs k hk
    cases k with
    | zero => simp [U.tm, depth_leaf] at hk
    | succ k => rfl
  | un c a ih =>
    intro h hs k hk
    cases k with
    | zero => rw [U.tm, depth_un] at hk; omega
    | succ k =>
      rw [U.tm, depth_un] at hk
      simp only [U.size] at hs
      have ha := ih h (by omega) (k := k) (by omega)
      show ref29_Order.F (ref29_Order.f k) (Tm.mk c.num 0 [a.tm]) = _
      unfold ref29_Order.F
      have e1 : ref29_Order.L0 (ref29_Order.f k) (Tm.mk c.num 0 [a.tm]) (((([a.tm] : List Tm).length : Int)).toNat + 1) [] 0 = some [a.ordr.tm] := by
        show ref29_Order.L0 (ref29_Order.f k) (Tm.mk c.num 0 [a.tm]) 2 [] 0 = _
        simp [ref29_Order.L0, nm, req, Tm.mk, Tree.kids, ha, wrap1]
      refine (congrArg (fun x => Option.bind x _) e1).trans ?_
      have hc : ¬ (c.num == 8) = true := by cases c <;> decide
      rw [Option.bind_some]
      refine (congrArg (fun x => Option.bind x _) (if_neg hc)).trans ?_
      rfl
  | bi c a b iha ihb =>
    intro h hs k hk
    cases k with
    | zero => rw [U.tm] at hk; have := depth_bi c.num 0 a.tm b.tm; omega
    | succ k =>
      rw [U.tm] at hk
      have hd := depth_bi c.num 0 a.tm b.tm
      simp only [U.size] at hs
      have ha := iha h.1 (by omega) (k := k) (by omega)
      have hb := ihb h.2 (by omega) (k := k) (by omega)
      show ref29_Order.F (ref29_Order.f k) (Tm.mk c.num 0 [a.tm, b.tm]) = _
      unfold ref29_Order.F
      have e1 : ref29_Order.L0 (ref29_Order.f k) (Tm.mk c.num 0 [a.tm, b.tm]) (((([a.tm, b.tm] : List Tm).length : Int)).toNat + 1) [] 0 = some [a.ordr.tm, b.ordr.tm] := by
        show ref29_Order.L0 (ref29_Order.f k) (Tm.mk c.num 0 [a.tm, b.tm]) 3 [] 0 = _
        simp [ref29_Order.L0, nm, req, Tm.mk, Tree.kids, ha, hb, wrap1, wrap2]
      refine (congrArg (fun x => Option.bind x _) e1).trans ?_
      rw [Option.bind_some]
      by_cases hc : c = .shared
      · subst hc
        refine (congrArg (fun x => Option.bind x _) (if_pos (show (K2.shared.num == 8) = true by decide))).trans ?_
        have t1 := rtextd (ordr_ok h.1) (by rw [ordr_size]; omega)
        have t2 := rtextd (ordr_ok h.2) (by rw [ordr_size]; omega)
        simp only [req, nm, List.length_cons, List.length_nil, List.getD_cons_zero, Int.toNat_zero, Option.bind_some, t1]
        rw [if_pos (by decide), if_pos (by decide)]
        have e2 : ([a.ordr.tm, b.ordr.tm] : List Tm).getD ((1 : Int).toNat) Tm.dflt = b.ordr.tm := rfl
        rw [e2, t2]
        simp only [Option.bind_some]
        cases hq : (lessL a.ordr.txt b.ordr.txt || a.ordr.txt == b.ordr.txt) with
        | true =>
          have e3 : (U.bi .shared a b).ordr = .bi .shared a.ordr b.ordr := by rw [ordr_bi, hq]; simp
          rw [e3]
          rfl
        | false =>
          have e3 : (U.bi .shared a b).ordr = .bi .shared b.ordr a.ordr := by rw [ordr_bi, hq]; simp
          rw [e3]
          rfl
      · have hc' : ¬ (c.num == 8) = true := by cases c <;> first | decide | exact absurd rfl hc
        refine (congrArg (fun x => Option.bind x _) (if_neg hc')).trans ?_
        rw [ordr_bi, if_neg (fun hh => hc hh.1)]
        rfl
theorem rorderd {u : U} (h : u.ok) (hs : u.size ≤ 2000000) : ref29_Order.f (Tm.fuel u.tm) u.tm = some u.ordr.tm := rorder_u h hs (Nat.le_refl _)
theorem fit_ordr {u : U} (h : Fit u) : Fit u.ordr := ⟨ordr_ok h.1, by rw [ordr_size]; exact h.2⟩
end Go.Proofs.YtfbogkhgfaibbaaDoor
end

section
namespace Go.Proofs.YtfbogkhgfaibbaaDoor
open Go Go.HW Go.RowKit
set_option linter.unusedVariables false
set_option linter.unusedSimpArgs false

/-! ### how far a text is letters, or digits -/
def lowB (b : UInt8) : Bool := decide (97 ≤ (b.toNat : Int)) && decide ((b.toNat : Int) ≤ 122)
def digB (b : UInt8) : Bool := decide (48 ≤ (b.toNat : Int)) && decide ((b.toNat : Int) ≤ 57)
def span (p : UInt8 → Bool) (s : List UInt8) : Nat := (s.takeWhile p).length
theorem span_le (p : UInt8 → Bool) (s : List UInt8) : span p s ≤ s.length := (List.takeWhile_prefix p).length_le
theorem span_app {p : UInt8 → Bool} : ∀ {a r : List UInt8}, (∀ b ∈ a, p b = true) → (r = [] ∨ ∃ c t, r = c :: t ∧ p c = false) → span p (a ++ r) = a.length
  | [], r, _, h => by
    rcases h with rfl | ⟨c, t, rfl, hc⟩
    · rfl
    · simp [span, List.takeWhile_cons, hc]
  | b :: a, r, h1, h2 => by
    have ih := span_app (p := p) (a := a) (r := r) (fun x hx => h1 x (List.mem_cons_of_mem _ hx)) h2
    unfold span at ih ⊢
    rw [List.cons_append, List.takeWhile_cons, h1 b List.mem_cons_self]
    simp only [if_true, List.length_cons, ih]
theorem scan_gen {s : List UInt8} {p : UInt8 → Bool} {L : Nat → Int → Option Int} (hs : s.length ≤ 1000000)
    (hgo : ∀ k i, i < s.length → p (s.getD i 0) = true → L (k + 1) (i : Int) = L k (IntKind.i64.wrap ((i : Int) + 1)))
    (hstop : ∀ k i, i < s.length → p (s.getD i 0) = false → L (k + 1) (i : Int) = some (i : Int))
    (hend : ∀ k, L (k + 1) (s.length : Int) = some (s.length : Int)) :
    ∀ (k i : Nat), i ≤ s.length → s.length - i < k → L k (i : Int) = some ((i + span p (s.drop i) : Nat) : Int)
  | 0, i, _, h => by omega
  | k + 1, i, hi, h => by
    rcases Nat.lt_or_ge i s.length with c | c
    · have hd : s.drop i = s[i] :: s.drop (i + 1) := List.drop_eq_getElem_cons c
      have hg : s.getD i 0 = s[i] := by simp [c]
      cases hp : p (s.getD i 0) with
      | true =>
        rw [hgo k i c hp, wrap_succ (by omega), scan_gen hs hgo hstop hend k (i + 1) (by omega) (by omega), hd]
        unfold span
        rw [List.takeWhile_cons, ← hg, hp]
        simp only [if_true, List.length_cons]
        congr 2; omega
      | false =>
        rw [hstop k i c hp, hd]
        unfold span
        rw [List.takeWhile_cons, ← hg, hp]
        simp
    · obtain rfl : i = s.length := by omega
      rw [hend, List.drop_length]; simp [span]
theorem read_L0 {s : List UInt8} (hs : s.length ≤ 1000000) (k i : Nat) (hi : i ≤ s.length) (hk : s.length - i < k) : terms_read.L0 s k (i : Int) = some ((i + span lowB (s.drop i) : Nat) : Int) := by
  refine scan_gen (L := terms_read.L0 s) hs (fun k i c hp => ?_) (fun k i c hp => ?_) (fun k => ?_) k i hi hk
  · have c' : (i : Int) < (s.length : Int) := by omega
    have c0 : (0 : Int) ≤ (i : Int) := by omega
    rw [terms_read.L0]
    simp only [lowB, Bool.and_eq_true, decide_eq_true_eq] at hp
    simp only [c', decide_true, if_true, req, c0, Option.bind_some, chr, Int.toNat_natCast, hp.1, hp.2]
  · have c' : (i : Int) < (s.length : Int) := by omega
    have c0 : (0 : Int) ≤ (i : Int) := by omega
    rw [terms_read.L0]
    simp only [c', decide_true, if_true, req, c0, Option.bind_some]
    have hq : (decide (97 ≤ chr s (i : Int).toNat) && decide (chr s (i : Int).toNat ≤ 122)) = false := hp
    cases h1 : decide (97 ≤ chr s (i : Int).toNat) with
    | false => simp
    | true => rw [h1] at hq; simp only [Bool.true_and] at hq; simp only [hq, if_true, Option.bind_some]; simp
  · rw [terms_read.L0]; simp
theorem read_L2 {s : List UInt8} {z : Int} (hs : (s.drop z.toNat).length ≤ 1000000) (k i : Nat) (hi : i ≤ (s.drop z.toNat).length) (hk : (s.drop z.toNat).length - i < k) : terms_read.L2 s z k (i : Int) = some ((i + span digB ((s.drop z.toNat).drop i) : Nat) : Int) := by
  generalize hx : s.drop z.toNat = x at *
  refine scan_gen (L := terms_read.L2 s z) hs (fun k i c hp => ?_) (fun k i c hp => ?_) (fun k => ?_) k i hi hk
  · have c' : (i : Int) < (x.length : Int) := by omega
    have c0 : (0 : Int) ≤ (i : Int) := by omega
    rw [terms_read.L2, hx]
    simp only [digB, Bool.and_eq_true, decide_eq_true_eq] at hp
    simp only [nm, c', decide_true, if_true, req, c0, Option.bind_some, chr, Int.toNat_natCast, hp.1, hp.2]
  · have c' : (i : Int) < (x.length : Int) := by omega
    have c0 : (0 : Int) ≤ (i : Int) := by omega
    rw [terms_read.L2, hx]
    simp only [nm, c', decide_true, if_true, req, c0, Option.bind_some]
    have hq : (decide (48 ≤ chr x (i : Int).toNat) && decide (chr x (i : Int).toNat ≤ 57)) = false := hp
    cases h1 : decide (48 ≤ chr x (i : Int).toNat) with
    | false => simp
    | true => rw [h1] at hq; simp only [Bool.true_and] at hq; simp only [hq, if_true, Option.bind_some]; simp
  · rw [terms_read.L2, hx]; simp [nm]
theorem rread_L0 {s : List UInt8} (hs : s.length ≤ 1000000) (k i : Nat) (hi : i ≤ s.length) (hk : s.length - i < k) : ref29_read.L0 s k (i : Int) = some ((i + span lowB (s.drop i) : Nat) : Int) := by
  refine scan_gen (L := ref29_read.L0 s) hs (fun k i c hp => ?_) (fun k i c hp => ?_) (fun k => ?_) k i hi hk
  · have c' : (i : Int) < (s.length : Int) := by omega
    have c0 : (0 : Int) ≤ (i : Int) := by omega
    rw [ref29_read.L0]
    simp only [lowB, Bool.and_eq_true, decide_eq_true_eq] at hp
    simp only [c', decide_true, if_true, req, c0, Option.bind_some, chr, Int.toNat_natCast, hp.1, hp.2]
  · have c' : (i : Int) < (s.length : Int) := by omega
    have c0 : (0 : Int) ≤ (i : Int) := by omega
    rw [ref29_read.L0]
    simp only [c', decide_true, if_true, req, c0, Option.bind_some]
    have hq : (decide (97 ≤ chr s (i : Int).toNat) && decide (chr s (i : Int).toNat ≤ 122)) = false := hp
    cases h1 : decide (97 ≤ chr s (i : Int).toNat) with
    | false => simp
    | true => rw [h1] at hq; simp only [Bool.true_and] at hq; simp only [hq, if_true, Option.bind_some]; simp
  · rw [ref29_read.L0]; simp
theorem number_L0 {s : List UInt8} (hs : s.length ≤ 1000000) (k i : Nat) (hi : i ≤ s.length) (hk : s.length - i < k) : ref29_number.L0 s k (i : Int) = some ((i + span digB (s.drop i) : Nat) : Int) := by
  refine scan_gen (L := ref29_number.L0 s) hs (fun k i c hp => ?_) (fun k i c hp => ?_) (fun k => ?_) k i hi hk
  · have c' : (i : Int) < (s.length : Int) := by omega
    have c0 : (0 : Int) ≤ (i : Int) := by omega
    rw [ref29_number.L0]
    simp only [digB, Bool.and_eq_true, decide_eq_true_eq] at hp
    simp only [c', decide_true, if_true, req, c0, Option.bind_some, chr, Int.toNat_natCast, hp.1, hp.2]
  · have c' : (i : Int) < (s.length : Int) := by omega
    have c0 : (0 : Int) ≤ (i : Int) := by omega
    rw [ref29_number.L0]
    simp only [c', decide_true, if_true, req, c0, Option.bind_some]
    have hq : (decide (48 ≤ chr s (i : Int).toNat) && decide (chr s (i : Int).toNat ≤ 57)) = false := hp
    cases h1 : decide (48 ≤ chr s (i : Int).toNat) with
    | false => simp
    | true => rw [h1] at hq; simp only [Bool.true_and] at hq; simp only [hq, if_true, Option.bind_some]; simp
  · rw [ref29_number.L0]; simp
theorem number_eq {s : List UInt8} (hs : s.length ≤ 1000000) {i : Nat} (hi : i ≤ s.length) : ref29_number.f s (i : Int) = some ((i + span digB (s.drop i) : Nat) : Int) := by
  unfold ref29_number.f
  rw [number_L0 hs _ i hi (by omega), Option.bind_some]

/-! ### which kind a name is -/
def kindStep (nm : List UInt8) (y : Int) (e : Int × Int) : Int := if (fmName e.1 == nm) = true then e.1 else y
def kindOf (nm : List UInt8) : Int := fmL.foldl (kindStep nm) 0
theorem read_L1 {s : List UInt8} {z : Int} (h0 : 0 ≤ z) (h1 : z ≤ (s.length : Int)) : ∀ (l : List (Int × Int)) (y : Int), terms_read.L1 s z l y = some (l.foldl (kindStep (s.take z.toNat)) y)
  | [], y => rfl
  | e :: l, y => by
    rw [terms_read.L1, terms_read.L1B, reqT h0, reqT h1, List.foldl_cons]
    unfold kindStep
    split
    · rw [Option.bind_some, Option.bind_some]; exact read_L1 h0 h1 l _
    · rw [Option.bind_some, Option.bind_some]; exact read_L1 h0 h1 l _
theorem read_kind {s : List UInt8} {z : Nat} (h1 : z ≤ s.length) : terms_read.L1 s (z : Int) fmL 0 = some (kindOf (s.take z)) := by
  rw [read_L1 (by omega) (by omega)]; rfl
theorem kindOf_any (nm : List UInt8) : kindOf nm = 0 ∨ (kindOf nm, fmArgs (kindOf nm)) ∈ fmL ∧ fmName (kindOf nm) = nm := by
  unfold kindOf
  have : ∀ (l : List (Int × Int)) (y : Int), (∀ e ∈ l, e ∈ fmL) → (y = 0 ∨ (y, fmArgs y) ∈ fmL ∧ fmName y = nm) → (l.foldl (kindStep nm) y = 0 ∨ (l.foldl (kindStep nm) y, fmArgs (l.foldl (kindStep nm) y)) ∈ fmL ∧ fmName (l.foldl (kindStep nm) y) = nm) := by
    intro l
    induction l with
    | nil => intro y _ h; exact h
    | cons e l ih =>
      intro y hl h
      rw [List.foldl_cons]
      refine ih _ (fun x hx => hl x (List.mem_cons_of_mem _ hx)) ?_
      unfold kindStep
      split
      · rename_i he
        have hm := hl e List.mem_cons_self
        refine .inr ⟨?_, by simpa using he⟩
        have ha : ∀ e ∈ fmL, fmArgs e.1 = e.2 := by decide
        rw [ha e hm]; exact hm
      · exact h
  exact this fmL 0 (fun e he => he) (.inl rfl)
theorem kind_cases {z : Int} (h : (z, fmArgs z) ∈ fmL) : 1 ≤ z ∧ z ≤ 9 ∧ fmIs z = true ∧ 0 ≤ fmArgs z ∧ fmArgs z ≤ 2 ∧ (fmArgs z = 0 ↔ z ≤ 2) ∧ fmName z ≠ [] ∧ ref29_args.f z = some (fmArgs z) := by
  have : ∀ e ∈ fmL, 1 ≤ e.1 ∧ e.1 ≤ 9 ∧ fmIs e.1 = true ∧ 0 ≤ fmArgs e.1 ∧ fmArgs e.1 ≤ 2 ∧ (fmArgs e.1 = 0 ↔ e.1 ≤ 2) ∧ fmName e.1 ≠ [] ∧ ref29_args.f e.1 = some (fmArgs e.1) := by decide
  exact this _ h
theorem kind_k1 (c : K1) : kindOf c.name = c.num := by cases c <;> kernel_rfl
theorem kind_k2 (c : K2) : kindOf c.name = c.num := by cases c <;> kernel_rfl
theorem name_low1 (c : K1) : ∀ b ∈ c.name, lowB b = true := by cases c <;> decide
theorem name_low2 (c : K2) : ∀ b ∈ c.name, lowB b = true := by cases c <;> decide
theorem names_get : ∀ i : Nat, 1 ≤ i → i ≤ 9 → ([([] : List UInt8), [100], [115], [112, 117, 98, 108, 105, 99], [115, 101, 97, 108], [115, 105, 103, 110], [109, 97, 99], [112, 97, 105, 114], [115, 104, 97, 114, 101, 100], [104, 97, 115, 104]] : List (List UInt8)).getD i [] = fmName (i : Int) := by
  intro i h1 h2
  have : ∀ i : Fin 10, 1 ≤ i.val → ([([] : List UInt8), [100], [115], [112, 117, 98, 108, 105, 99], [115, 101, 97, 108], [115, 105, 103, 110], [109, 97, 99], [112, 97, 105, 114], [115, 104, 97, 114, 101, 100], [104, 97, 115, 104]] : List (List UInt8)).getD i.val [] = fmName (i.val : Int) := by decide
  exact this ⟨i, by omega⟩ h1
theorem rread_L1 {s : List UInt8} {a z : Nat} (h0 : a ≤ z) (h1 : z ≤ s.length) : ∀ (k i : Nat) (y : Int), i + k = 11 → 1 ≤ i → i ≤ 10 → ref29_read.L1 s (a : Int) (z : Int) k (i : Int) y = some ((fmL.drop (i - 1)).foldl (kindStep ((s.drop a).take (z - a))) y)
  | 0, i, y, hk, _, _ => by omega
  | k + 1, i, y, hk, hi, hi2 => by
    rw [ref29_read.L1]
    rcases Nat.lt_or_ge 9 i with c | c
    · obtain rfl : i = 10 := by omega
      simp [fmL]
    · have c' : ((i : Int) ≤ 9) := by omega
      simp only [c', decide_true, if_true]
      rw [reqT (by omega), reqT (by omega), reqT (by omega)]
      simp only [nm, ref29_names.f, Option.bind_some]
      rw [reqT (by omega), reqT (by simp; omega), wrap_succ (by omega)]
      rw [show ([([] : List UInt8), [100], [115], [112, 117, 98, 108, 105, 99], [115, 101, 97, 108], [115, 105, 103, 110], [109, 97, 99], [112, 97, 105, 114], [115, 104, 97, 114, 101, 100], [104, 97, 115, 104]] : List (List UInt8)).getD (i : Int).toNat [] = fmName (i : Int) from names_get i hi c]
      show ((if ((s.drop a).take (z - a) == fmName (i : Int)) = true then some (i : Int) else some y).bind fun j => ref29_read.L1 s (a : Int) (z : Int) k ((i + 1 : Nat) : Int) j) = _
      have hd : fmL.drop (i - 1) = ((i : Int), fmArgs (i : Int)) :: fmL.drop (i + 1 - 1) := by
        have : ∀ j : Fin 10, 1 ≤ j.val → fmL.drop (j.val - 1) = ((j.val : Int), fmArgs (j.val : Int)) :: fmL.drop (j.val + 1 - 1) := by decide
        exact this ⟨i, by omega⟩ hi
      rw [hd, List.foldl_cons]
      have hst : kindStep ((s.drop a).take (z - a)) y ((i : Int), fmArgs (i : Int)) = if ((s.drop a).take (z - a) == fmName (i : Int)) = true then (i : Int) else y := by
        unfold kindStep
        by_cases e : fmName (i : Int) = (s.drop a).take (z - a)
        · simp [e]
        · have e' : ¬ (s.drop a).take (z - a) = fmName (i : Int) := fun h => e h.symm
          simp [e, e']
      rw [hst]
      split
      · rw [Option.bind_some]; exact rread_L1 h0 h1 k (i + 1) _ (by omega) (by omega) (by omega)
      · rw [Option.bind_some]; exact rread_L1 h0 h1 k (i + 1) _ (by omega) (by omega) (by omega)
theorem rread_kind {s : List UInt8} {a z : Nat} (h0 : a ≤ z) (h1 : z ≤ s.length) : ref29_read.L1 s (a : Int) (z : Int) 10 1 0 = some (kindOf ((s.drop a).take (z - a))) := rread_L1 h0 h1 10 1 0 rfl (by omega) (by omega)
end Go.Proofs.YtfbogkhgfaibbaaDoor
end

section
namespace Go.Proofs.YtfbogkhgfaibbaaDoor
open Go Go.HW Go.RowKit
set_option linter.unusedVariables false
set_option linter.unusedSimpArgs false

/-! ### the program's read answers at every text -/
theorem trim_pos {s p : List UInt8} (h : Lib.hasPrefix s p = true) : Lib.trimPrefix s p = s.drop p.length := by
  unfold Lib.trimPrefix; rw [if_pos h]
theorem trim_le (s p : List UInt8) : (Lib.trimPrefix s p).length ≤ s.length := by
  unfold Lib.trimPrefix; split <;> simp
theorem prefix_len {s p : List UInt8} (h : Lib.hasPrefix s p = true) : p.length ≤ s.length := by
  unfold Lib.hasPrefix at h
  exact (List.isPrefixOf_iff_prefix.1 h).length_le
theorem TOk_mk {k n : Int} {l : List Tm} (hk : i64 k) (hn : i64 n) (hl : ∀ t ∈ l, TOk t) : TOk (Tm.mk k n l) := (TOk_iff _).2 ⟨hk, hn, hl⟩
def ReadOk (s : List UInt8) (left : Int) (o : Option (Tm × List UInt8 × Bool × Int)) : Prop := ∃ t rest g l', o = some (t, rest, g, l') ∧ TOk t ∧ -1 ≤ l' ∧ l' ≤ left ∧ (g = true → 0 ≤ l' ∧ rest.length < s.length)
theorem read_L3 {r : List UInt8 → Int → Option (Tm × List UInt8 × Bool × Int)} {K : Nat} (hr : ∀ s left, s.length < K → 0 ≤ left → left ≤ 100000 → ReadOk s left (r s left)) {z : Int} (hz : 0 ≤ z ∧ z ≤ 9) (ha : fmArgs z ≤ 2) :
    ∀ (m : Nat) (i : Nat) (y : List Tm) (x : List UInt8) (left : Int), (fmArgs z - i).toNat < m → x.length ≤ K → y.length ≤ i → i ≤ 3 → 0 ≤ left → left ≤ 100000 → (∀ t ∈ y, TOk t) →
    (∃ y' x' l', terms_read.L3 r z m y x (i : Int) left = some (.inl (y', x', l')) ∧ (∀ t ∈ y', TOk t) ∧ x'.length ≤ x.length ∧ 0 ≤ l' ∧ l' ≤ left) ∨ (∃ t rest l', terms_read.L3 r z m y x (i : Int) left = some (.inr (t, rest, false, l')) ∧ TOk t ∧ -1 ≤ l' ∧ l' ≤ left)
  | 0, i, y, x, left, h, _, _, _, _, _, _ => by omega
  | m + 1, i, y, x, left, h, hx, hy, hi3, h0, h1, ho => by
    rw [terms_read.L3]
    by_cases c : (i : Int) < fmArgs z
    · simp only [c, decide_true, if_true]
      have e1 : ∀ {β : Type} (F : List UInt8 → Option β), (if ((i : Int) == 0) = true then (some ([40] : List UInt8)) else (some [44])).bind F = F (if ((i : Int) == 0) = true then [40] else [44]) := fun F => by split <;> rfl
      rw [e1]
      generalize hp : (if ((i : Int) == 0) = true then ([40] : List UInt8) else [44]) = p
      have hpl : p.length = 1 := by rw [← hp]; split <;> rfl
      simp only [nm]
      cases hpre : Lib.hasPrefix x p with
      | false =>
        simp only [Bool.false_eq_true, if_false, Option.bind_some, Bool.not_false, if_true]
        exact .inr ⟨_, _, _, rfl, TOk_mk ⟨by omega, by omega⟩ ⟨by omega, by omega⟩ ho, by omega, by omega⟩
      | true =>
        have hlen := prefix_len hpre
        have htr := trim_pos hpre
        obtain ⟨t, rest, g, l', e, ht, h2, h3, hg⟩ := hr (Lib.trimPrefix x p) left (by rw [htr, List.length_drop]; omega) h0 h1
        simp only [if_true, e, Option.bind_some]
        cases g with
        | false =>
          simp only [Bool.not_false, if_true]
          exact .inr ⟨_, _, _, rfl, TOk_mk ⟨by omega, by omega⟩ ⟨by omega, by omega⟩ ho, by omega, by omega⟩
        | true =>
          obtain ⟨h4, h5⟩ := hg rfl
          have h6 := trim_le x p
          simp only [Bool.not_true, Bool.false_eq_true, if_false]
          rw [reqT (by simp; omega), wrap_succ (by omega)]
          rcases read_L3 hr hz ha m (i + 1) (y ++ [t]) rest l' (by omega) (by omega) (by simp; omega) (by omega) h4 (by omega) (fun u hu => by
            rcases List.mem_append.1 hu with hu | hu
            · exact ho u hu
            · rw [List.mem_singleton.1 hu]; exact ht) with ⟨y', x', l2, e2, a1, a2, a3, a4⟩ | ⟨t2, rest2, l2, e2, a1, a2, a3⟩
          · exact .inl ⟨y', x', l2, e2, a1, by omega, a3, by omega⟩
          · exact .inr ⟨t2, rest2, l2, e2, a1, a2, by omega⟩
    · simp only [c, decide_false, Bool.false_eq_true, if_false]
      exact .inl ⟨_, _, _, rfl, ho, Nat.le_refl _, h0, Int.le_refl _⟩
theorem atoi_i64 (s : List UInt8) : i64 (atoiR s).1 := by
  unfold atoiR
  have hsat : i64 (Lib.atoiSat s) := by unfold Lib.atoiSat; split <;> exact ⟨by omega, by omega⟩
  cases hq : Lib.atoiAll s with
  | «syntax» => exact ⟨by show (-9223372036854775808 : Int) ≤ 0; omega, by show (0 : Int) ≤ 9223372036854775807; omega⟩
  | range => exact hsat
  | ok v =>
    show i64 v
    unfold Lib.atoiAll at hq
    split at hq
    · cases hq
    · simp only at hq
      split at hq
      · cases hq
      · cases hq
      · split at hq
        · cases hq
        · split at hq
          · cases hq
          · cases hq
            rename_i h1 h2
            split
            · rename_i h3
              exact ⟨by have := fun h4 => h2 ⟨h3, h4⟩; omega, by omega⟩
            · rename_i h3
              exact ⟨by omega, by have := fun h4 => h1 ⟨h3, h4⟩; omega⟩
theorem read_total : ∀ (k : Nat) (s : List UInt8) (left : Int), s.length < k → s.length ≤ 100000 → 0 ≤ left → left ≤ 100000 → ReadOk s left (terms_read.f k s left)
  | 0, s, left, h, _, _, _ => by omega
  | k + 1, s, left, h, hs, h0, h1 => by
    show ReadOk s left (terms_read.F (terms_read.f k) s left)
    unfold terms_read.F
    have hL0 := read_L0 (s := s) (by omega) (s.length + 1) 0 (by omega) (by omega)
    rw [List.drop_zero, Nat.zero_add, show ((0 : Nat) : Int) = 0 from rfl] at hL0
    have hle := span_le lowB s
    rw [hL0, Option.bind_some, read_kind hle, Option.bind_some]
    generalize hz : kindOf (s.take (span lowB s)) = z
    have hzc := kindOf_any (s.take (span lowB s))
    rw [hz] at hzc
    rw [w64 (n := left - 1) (by omega) (by omega)]
    rcases hzc with rfl | ⟨hm, hname⟩
    · refine ⟨_, _, _, _, by rw [show fmIs 0 = false from rfl]; rfl, TOk_mk ⟨by omega, by omega⟩ ⟨by omega, by omega⟩ (fun t ht => by cases ht), by omega, by omega, fun hh => by cases hh⟩
    · obtain ⟨z1, z2, z3, z4, z5, z6, z7, -⟩ := kind_cases hm
      have hpos : 1 ≤ span lowB s := by
        rcases Nat.eq_zero_or_pos (span lowB s) with h2 | h2
        · rw [h2, List.take_zero] at hname; exact absurd hname z7
        · exact h2
      rw [z3]
      simp only [Bool.not_true, Bool.false_eq_true, if_false, Option.bind_some]
      by_cases hl : left - 1 < 0
      · simp only [hl, decide_true, if_true]
        exact ⟨_, _, _, _, rfl, TOk_mk ⟨by omega, by omega⟩ ⟨by omega, by omega⟩ (fun t ht => by cases ht), by omega, by omega, fun hh => by cases hh⟩
      · simp only [hl, decide_false, Bool.false_eq_true, if_false]
        rw [reqT (by omega), reqT (by omega)]
        have hdl : (s.drop (span lowB s)).length = s.length - span lowB s := List.length_drop
        by_cases ha : fmArgs z = 0
        · rw [if_pos (by simpa using ha)]
          have hL2 := read_L2 (s := s) (z := ((span lowB s : Nat) : Int)) (by rw [Int.toNat_natCast]; omega) (((s.drop ((span lowB s : Nat) : Int).toNat).length : Int).toNat + 1) 0 (by omega) (by omega)
          rw [List.drop_zero, Nat.zero_add, show ((0 : Nat) : Int) = 0 from rfl] at hL2
          have hle2 := span_le digB (s.drop ((span lowB s : Nat) : Int).toNat)
          rw [hL2, Option.bind_some, reqT (by omega), reqT (by omega)]
          generalize hx : (s.drop ((span lowB s : Nat) : Int).toNat) = x at hle2 ⊢
          have hxl : x.length = s.length - span lowB s := by rw [← hx, Int.toNat_natCast]; exact hdl
          have hat : tm_atoi.f (x.take ((span digB x : Nat) : Int).toNat) = some (atoiR (x.take ((span digB x : Nat) : Int).toNat)) := by
            unfold tm_atoi.f
            rw [if_pos (by rw [List.length_take]; omega)]
          rw [hat]
          exact ⟨_, _, _, _, rfl, TOk_mk ⟨by omega, by omega⟩ (atoi_i64 _) (fun t ht => by cases ht), by omega, by omega, fun _ => ⟨by omega, by rw [List.length_drop]; omega⟩⟩
        · rw [if_neg (by simpa using ha)]
          rcases read_L3 (r := terms_read.f k) (K := s.length) (fun s2 left2 q1 q2 q3 => read_total k s2 left2 (by omega) (by omega) q2 q3) (z := z) ⟨by omega, z2⟩ z5 ((fmArgs z).toNat + 1) 0 [] (s.drop (((span lowB s : Nat) : Int).toNat)) (left - 1) (by omega) (by rw [Int.toNat_natCast, hdl]; omega) (by simp) (by omega) (by omega) (by omega) (fun t ht => by cases ht) with ⟨y', x', l2, e2, a1, a2, a3, a4⟩ | ⟨t2, rest2, l2, e2, a1, a2, a3⟩
          · rw [show ((0 : Nat) : Int) = 0 from rfl] at e2
            rw [e2]
            simp only [onw, nm]
            have h6 := trim_le x' [41]
            rw [Int.toNat_natCast, hdl] at a2
            exact ⟨_, _, _, _, rfl, TOk_mk ⟨by omega, by omega⟩ ⟨by omega, by omega⟩ a1, by omega, by omega, fun _ => ⟨a3, by omega⟩⟩
          · rw [show ((0 : Nat) : Int) = 0 from rfl] at e2
            rw [e2]
            simp only [onw]
            exact ⟨_, _, _, _, rfl, a1, by omega, by omega, fun hh => by cases hh⟩
end Go.Proofs.YtfbogkhgfaibbaaDoor
end

section
namespace Go.Proofs.YtfbogkhgfaibbaaDoor
open Go Go.HW Go.RowKit
set_option linter.unusedVariables false
set_option linter.unusedSimpArgs false

/-! ### the program's read reads a text back -/
theorem isDig_digB {b : UInt8} (h : isDig b) : digB b = true := by
  unfold isDig at h; unfold digB
  simp only [Bool.and_eq_true, decide_eq_true_eq]; omega
theorem stops_dig {r : List UInt8} (h : Stops r) : r = [] ∨ ∃ c t, r = c :: t ∧ digB c = false := by
  rcases h with h | ⟨c, t, h, hc⟩
  · exact .inl h
  · refine .inr ⟨c, t, h, ?_⟩
    rcases hc with rfl | rfl <;> decide
theorem dig_low {b : UInt8} (h : isDig b) : lowB b = false := by
  unfold isDig at h; unfold lowB
  rw [Bool.and_eq_false_iff]
  left; rw [decide_eq_false_iff_not]; omega
theorem itoa_low {n : Int} (h : 0 ≤ n) (r : List UInt8) : ∃ c t, Lib.itoa n ++ r = c :: t ∧ lowB c = false := by
  cases hq : Lib.itoa n with
  | nil => exact absurd hq (itoa_ne h)
  | cons c t => exact ⟨c, t ++ r, rfl, dig_low (itoa_dig h c (by rw [hq]; exact List.mem_cons_self))⟩
/-- the number that digits tell -/
def valL (a : Nat) (l : List UInt8) : Nat := l.foldl (fun a b => 10 * a + (b.toNat - 48)) a
theorem valL_app (a : Nat) (l m : List UInt8) : valL a (l ++ m) = valL (valL a l) m := List.foldl_append
theorem valL_dec (u : Nat) : valL 0 (Lib.decDigits u) = u := by
  induction u using Nat.strongRecOn with
  | _ u ih =>
    rw [Lib.decDigits]
    split
    · rename_i h
      simp only [valL, List.foldl_cons, List.foldl_nil]; rw [ofNat_dig h]; omega
    · rename_i h
      rw [valL_app, ih _ (by omega)]
      simp only [valL, List.foldl_cons, List.foldl_nil]; rw [ofNat_dig (by omega)]; omega
theorem valL_le : ∀ (l : List UInt8) (a : Nat), a ≤ valL a l
  | [], a => Nat.le_refl _
  | b :: l, a => by
    have := valL_le l (10 * a + (b.toNat - 48))
    show a ≤ valL (10 * a + (b.toNat - 48)) l
    omega
theorem parse_val : ∀ (l : List UInt8) (a : Nat), (∀ b ∈ l, isDig b) → valL a l ≤ 9223372036854775807 → Lib.parseUint10 a l = .ok (valL a l)
  | [], a, _, _ => rfl
  | b :: l, a, hd, hv => by
    have hb := hd b List.mem_cons_self
    unfold isDig at hb
    have h1 := valL_le l (10 * a + (b.toNat - 48))
    have h2 : valL (10 * a + (b.toNat - 48)) l ≤ 9223372036854775807 := hv
    rw [Lib.parseUint10, if_pos hb, if_neg (by omega), if_neg (by omega), Nat.mul_comm a 10]
    exact parse_val l _ (fun c hc => hd c (List.mem_cons_of_mem _ hc)) h2
theorem itoa_val {n : Int} (h : 0 ≤ n) : (valL 0 (Lib.itoa n) : Int) = n := by
  unfold Lib.itoa; rw [if_neg (by omega), valL_dec]; omega
theorem atoi_itoa {n : Int} (h : 0 ≤ n) (h2 : n ≤ 9223372036854775807) : atoiR (Lib.itoa n) = (n, true) := by
  have hv := itoa_val h
  have hp := parse_val (Lib.itoa n) 0 (itoa_dig h) (by omega)
  unfold atoiR Lib.atoiAll
  cases hq : Lib.itoa n with
  | nil => exact absurd hq (itoa_ne h)
  | cons c t =>
    have hc := itoa_dig h c (by rw [hq]; exact List.mem_cons_self)
    unfold isDig at hc
    have n1 : ¬ (c.toNat = 43 ∨ c.toNat = 45) := by omega
    have n2 : ¬ (c.toNat = 45) := by omega
    rw [hq] at hp hv
    have hm : Lib.parseMag (c :: t) = .ok (valL 0 (c :: t)) := by
      unfold Lib.parseMag; rw [if_neg (by simp), hp]
    simp only [n1, if_false, hm]
    have q1 : ¬ (¬ c.toNat = 45 ∧ 9223372036854775808 ≤ valL 0 (c :: t)) := by omega
    have q2 : ¬ (c.toNat = 45 ∧ 9223372036854775808 < valL 0 (c :: t)) := by omega
    rw [if_neg q1, if_neg q2, if_neg n2, hv]
theorem prefix1 (c : UInt8) (r : List UInt8) : Lib.hasPrefix (c :: r) [c] = true := by
  unfold Lib.hasPrefix; simp
theorem trim1 (c : UInt8) (r : List UInt8) : Lib.trimPrefix (c :: r) [c] = r := by
  rw [trim_pos (prefix1 c r)]; rfl
/-- the head of a walk over a text that begins with a name -/
theorem read_head {nam x : List UInt8} {z : Int} {left : Int} {rd : List UInt8 → Int → Option (Tm × List UInt8 × Bool × Int)} (hlow : ∀ b ∈ nam, lowB b = true) (hx : x = [] ∨ ∃ c t, x = c :: t ∧ lowB c = false) (hk : kindOf nam = z) (hm : (z, fmArgs z) ∈ fmL) (hl : (nam ++ x).length ≤ 1000000) (h0 : 1 ≤ left) (h1 : left ≤ 100000) :
    terms_read.F rd (nam ++ x) left = if ((fmArgs z) == 0) = true then ((terms_read.L2 (nam ++ x) ((nam.length : Nat) : Int) (x.length + 1) 0).bind fun z9_252 => req (0 ≤ z9_252) (req (z9_252 ≤ (x.length : Int)) ((tm_atoi.f (x.take z9_252.toNat)).bind fun (t296_0, t296_1) => some (Tm.mk z t296_0 ([] : List Tm), x.drop z9_252.toNat, t296_1, left - 1)))) else (onw (terms_read.L3 rd z ((fmArgs z).toNat + 1) ([] : List Tm) x 0 (left - 1)) (fun (z_o303_401, z15_402, z_a2_b_403) => nm (Lib.trimPrefix z15_402 [41]) fun t455 => nm (Lib.hasPrefix z15_402 [41]) fun t458 => some (Tm.mk z 0 z_o303_401, t455, t458, z_a2_b_403)) (fun r => some r)) := by
  unfold terms_read.F
  have hsp : span lowB (nam ++ x) = nam.length := span_app hlow hx
  have hL0 := read_L0 (s := nam ++ x) hl ((nam ++ x).length + 1) 0 (by omega) (by omega)
  rw [List.drop_zero, Nat.zero_add, show ((0 : Nat) : Int) = 0 from rfl, hsp] at hL0
  have hle : nam.length ≤ (nam ++ x).length := by simp
  obtain ⟨z1, z2, z3, z4, z5, z6, z7, -⟩ := kind_cases hm
  have etk : (nam ++ x).take nam.length = nam := List.take_left
  have edr : (nam ++ x).drop ((nam.length : Nat) : Int).toNat = x := by rw [Int.toNat_natCast]; exact List.drop_left
  rw [hL0, Option.bind_some, read_kind hle, Option.bind_some, etk, hk, w64 (n := left - 1) (by omega) (by omega), z3, edr]
  have c' : ¬ (left - 1 < 0) := by omega
  simp only [Bool.not_true, Bool.false_eq_true, if_false, Option.bind_some, c', decide_false]
  rw [reqT (by omega), reqT (by omega)]
  simp only [Int.toNat_natCast]
theorem read_u : ∀ {u : U}, u.ok → ∀ {k : Nat} {left : Int} {r : List UInt8}, u.tm.depth ≤ k → (u.size : Int) ≤ left → left ≤ 100000 → (u.txt ++ r).length ≤ 1000000 → Stops r → terms_read.f k (u.txt ++ r) left = some (u.tm, r, true, left - u.size) := by
  intro u
  have leaf : ∀ (z : Int) (c : UInt8) (n : Int) (k : Nat) (left : Int) (r : List UInt8), lowB c = true → kindOf [c] = z → (z, fmArgs z) ∈ fmL → fmArgs z = 0 → 0 ≤ n → n ≤ 9223372036854775807 → 1 ≤ left → left ≤ 100000 → ([c] ++ (Lib.itoa n ++ r)).length ≤ 1000000 → Stops r →
      terms_read.F (terms_read.f k) ([c] ++ (Lib.itoa n ++ r)) left = some (Tm.mk z n [], r, true, left - 1) := by
    intro z c n k left r hc hk hm ha h0 h1 hl0 hl1 hlen hr
    rw [read_head (by intro b hb; rw [List.mem_singleton.1 hb]; exact hc) (.inr (itoa_low h0 r)) hk hm hlen hl0 hl1, if_pos (by simpa using ha)]
    have hx : ([c] ++ (Lib.itoa n ++ r)).drop (((([c] : List UInt8).length : Nat) : Int)).toNat = Lib.itoa n ++ r := rfl
    have hL2 := read_L2 (s := [c] ++ (Lib.itoa n ++ r)) (z := ((([c] : List UInt8).length : Nat) : Int)) (by rw [hx]; simp at hlen ⊢; omega) ((Lib.itoa n ++ r).length + 1) 0 (by omega) (by rw [hx]; omega)
    rw [hx, List.drop_zero, Nat.zero_add, show ((0 : Nat) : Int) = 0 from rfl, span_app (fun b hb => isDig_digB (itoa_dig h0 b hb)) (stops_dig hr)] at hL2
    rw [hL2, Option.bind_some, reqT (by omega), reqT (by simp; omega)]
    rw [Int.toNat_natCast, List.take_left, List.drop_left]
    have : tm_atoi.f (Lib.itoa n) = some (n, true) := by
      unfold tm_atoi.f
      rw [if_pos (by simp at hlen; omega), atoi_itoa h0 h1]
    rw [this]; rfl
  induction u with
  | d n =>
    intro h k left r hk hl0 hl1 hlen hr
    cases k with
    | zero => simp [U.tm, depth_leaf] at hk
    | succ k => exact leaf 1 100 n k left r (by decide) (by decide) (by decide) (by decide) h.1 h.2 (by simpa [U.size] using hl0) hl1 hlen hr
  | s n =>
    intro h k left r hk hl0 hl1 hlen hr
    cases k with
    | zero => simp [U.tm, depth_leaf] at hk
    | succ k => exact leaf 2 115 n k left r (by decide) (by decide) (by decide) (by decide) h.1 h.2 (by simpa [U.size] using hl0) hl1 hlen hr
  | un c a ih =>
    intro h k left r hk hl0 hl1 hlen hr
    cases k with
    | zero => rw [U.tm, depth_un] at hk; omega
    | succ k =>
      rw [U.tm, depth_un] at hk
      simp only [U.size] at hl0
      have e : (U.un c a).txt ++ r = c.name ++ (40 :: (a.txt ++ (41 :: r))) := by simp [U.txt]
      rw [e] at hlen ⊢
      have hlen2 := hlen
      rw [List.length_append, List.length_cons] at hlen2
      show terms_read.F (terms_read.f k) _ left = _
      have hm : (c.num, fmArgs c.num) ∈ fmL := by cases c <;> decide
      have ha : fmArgs c.num = 1 := by cases c <;> decide
      rw [read_head (name_low1 c) (.inr ⟨40, _, rfl, by decide⟩) (kind_k1 c) hm hlen (by omega) hl1, if_neg (by rw [ha]; decide), ha]
      have hread := ih h (k := k) (left := left - 1) (r := 41 :: r) (by omega) (by omega) (by omega) (by omega) (st41 _)
      have hL : terms_read.L3 (terms_read.f k) c.num 2 [] (40 :: (a.txt ++ 41 :: r)) 0 (left - 1) = some (.inl ([a.tm], 41 :: r, left - 1 - a.size)) := by
        simp [terms_read.L3, ha, nm, trim1, prefix1, hread, req, wrap1]
      show onw (terms_read.L3 (terms_read.f k) c.num 2 [] (40 :: (a.txt ++ 41 :: r)) 0 (left - 1)) _ _ = _
      rw [hL]
      simp only [onw, nm, trim1, prefix1, U.tm, U.size]
      congr 4; omega
  | bi c a b iha ihb =>
    intro h k left r hk hl0 hl1 hlen hr
    cases k with
    | zero => rw [U.tm] at hk; have := depth_bi c.num 0 a.tm b.tm; omega
    | succ k =>
      rw [U.tm] at hk
      have hd := depth_bi c.num 0 a.tm b.tm
      simp only [U.size] at hl0
      have e : (U.bi c a b).txt ++ r = c.name ++ (40 :: (a.txt ++ (44 :: (b.txt ++ (41 :: r))))) := by simp [U.txt]
      rw [e] at hlen ⊢
      have hlen2 := hlen
      rw [List.length_append, List.length_cons, List.length_append, List.length_cons] at hlen2
      show terms_read.F (terms_read.f k) _ left = _
      have hm : (c.num, fmArgs c.num) ∈ fmL := by cases c <;> decide
      have ha : fmArgs c.num = 2 := by cases c <;> decide
      rw [read_head (name_low2 c) (.inr ⟨40, _, rfl, by decide⟩) (kind_k2 c) hm hlen (by omega) hl1, if_neg (by rw [ha]; decide), ha]
      have h1 := iha h.1 (k := k) (left := left - 1) (r := 44 :: (b.txt ++ 41 :: r)) (by omega) (by omega) (by omega) (by rw [List.length_append, List.length_cons]; omega) (st44 _)
      have h2 := ihb h.2 (k := k) (left := left - 1 - a.size) (r := 41 :: r) (by omega) (by omega) (by omega) (by omega) (st41 _)
      have hL : terms_read.L3 (terms_read.f k) c.num 3 [] (40 :: (a.txt ++ 44 :: (b.txt ++ 41 :: r))) 0 (left - 1) = some (.inl ([a.tm, b.tm], 41 :: r, left - 1 - a.size - b.size)) := by
        simp [terms_read.L3, ha, nm, trim1, prefix1, h1, h2, req, wrap1, wrap2]
      show onw (terms_read.L3 (terms_read.f k) c.num 3 [] (40 :: (a.txt ++ 44 :: (b.txt ++ 41 :: r))) 0 (left - 1)) _ _ = _
      rw [hL]
      simp only [onw, nm, trim1, prefix1, U.tm, U.size]
      congr 4; omega
end Go.Proofs.YtfbogkhgfaibbaaDoor
end
