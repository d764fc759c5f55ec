import Derived.Test.YtfbogkhgfaibbaaDoorTmZ
namespace Go.Proofs.YtfbogkhgfaibbaaDoor
open Go Go.HW Go.RowKit
set_option linter.unusedVariables false
set_option linter.unusedSimpArgs false
theorem known_law : law29_known.f = some true := by kernel_rfl

/-! ### TermsKeeps -/
def bareB (n : Int) : U → Bool
  | .s m => m == n
  | .bi .pair a b => bareB n a || bareB n b
  | .bi .enc _ b => bareB n b
  | .bi .sign _ b => bareB n b
  | _ => false
theorem bare_u {n : Int} : ∀ {u : U} {k : Nat}, u.tm.depth ≤ k → law29_bare.f k u.tm n = some (bareB n u) := by
  intro u
  induction u with
  | d m =>
    intro k hk
    cases k with
    | zero => simp [U.tm, depth_leaf] at hk
    | succ k => rfl
  | s m =>
    intro k hk
    cases k with
    | zero => simp [U.tm, depth_leaf] at hk
    | succ k => rfl
  | un c a ih =>
    intro k hk
    cases k with
    | zero => rw [U.tm, depth_un] at hk; omega
    | succ k => cases c <;> rfl
  | bi c a b iha ihb =>
    intro k hk
    cases k with
    | zero => rw [U.tm] at hk; have := depth_bi c.num 0 a.tm b.tm; omega
    | succ k =>
      rw [U.tm] at hk
      have hd := depth_bi c.num 0 a.tm b.tm
      have ha := iha (k := k) (by omega)
      have hb := ihb (k := k) (by omega)
      show law29_bare.F (law29_bare.f k) (Tm.mk c.num 0 [a.tm, b.tm]) n = _
      unfold law29_bare.F
      simp only [kind_mk, num_mk, kids_mk]
      cases c <;> simp [K2.num, req, nm, ha, hb, bareB]
      cases bareB n a <;> simp
theorem bare_ordr {n : Int} : ∀ {u : U}, bareB n u.ordr = bareB n u
  | .d _ => rfl
  | .s _ => rfl
  | .un _ _ => rfl
  | .bi k a b => by
    have ha := bare_ordr (n := n) (u := a)
    have hb := bare_ordr (n := n) (u := b)
    rw [ordr_bi]
    split
    · rename_i h; rw [h.1]; rfl
    · cases k <;> simp [bareB, ha, hb]
theorem keeps {us : List U} {n : Int} (h : ∀ u ∈ us, bareB n u = false) : ¬ Known2 us (.s n) := fun hk => by
  have hd : Der (fun x => ∃ y ∈ us, x = y.ordr) (.s n) := hk
  have := hd (fun u => bareB n u = false) (fun u ⟨y, hy, e⟩ => by rw [e, bare_ordr]; exact h y hy) fun u hu p hp => by
    cases u with
    | bi k a b =>
      cases k
      case pair =>
        have hu : (bareB n a || bareB n b) = false := hu
        rw [Bool.or_eq_false_iff] at hu
        rcases hp with rfl | rfl
        · exact hu.1
        · exact hu.2
      case sign => obtain rfl : p = b := hp; exact hu
      case enc => obtain rfl : p = b := hp.2; exact hu
      all_goals exact hp.elim
    | _ => exact hp.elim
  simp [bareB] at this
theorem fit_s {n : Int} (h0 : 0 ≤ n) (h : i64 n) : Fit (.s n) := ⟨⟨h0, h.2⟩, by show (1 : Nat) ≤ 2000; decide⟩
open Classical in
theorem TermsKeeps_law {xs : List Tm} {n : Int} (hx : ∀ t ∈ xs, TOk t) (hn : i64 n) : law29_TermsKeeps.f xs n = some true := by
  unfold law29_TermsKeeps.f
  obtain ⟨b, e, hb⟩ := much_law xs
  rw [e, Option.bind_some]
  cases b with
  | true =>
    simp only [if_true, Option.bind_some, known_law]
  | false =>
    have hb := hb rfl
    obtain ⟨c, e2, hc⟩ := all_law (by omega) hx
    simp only [Bool.false_eq_true, if_false, e2, Option.bind_some]
    cases c with
    | false => simp only [Bool.not_false, if_true, Option.bind_some, known_law]
    | true =>
      obtain ⟨us, rfl, hu⟩ := hc rfl
      have hul : us.length ≤ 30 := by simpa using hb
      simp only [Bool.not_true, Bool.false_eq_true, if_false, Option.bind_some]
      by_cases n0 : n < 0
      · simp only [n0, decide_true, if_true, known_law, Option.bind_some]
      · simp only [n0, decide_false, Bool.false_eq_true, if_false]
        have := each_loop (xs := us.map U.tm) (B := Bool) (L := law29_TermsKeeps.L0 (us.map U.tm) n) (step := fun t => (law29_bare.f (Tm.fuel t) t n).bind fun q => if q then some (some true) else some none) (by simp; omega) (fun q i r hi hst => ?_) (fun q => ?_) (fun t ht => ?_) ((((us.map U.tm).length : Int)).toNat + 1) 0 (by omega) (by omega)
        · rcases this with ⟨h1, h2⟩ | ⟨b, h1, x, hx, h2⟩
          · rw [show ((0 : Nat) : Int) = 0 from rfl] at h1
            have hbare : ∀ u ∈ us, bareB n u = false := fun u hu => by
              have h3 := h2 u.tm (by rw [List.drop_zero]; exact List.mem_map.2 ⟨u, hu, rfl⟩)
              rw [show Tm.fuel u.tm = Tree.depth u.tm from rfl, bare_u (Nat.le_refl _), Option.bind_some] at h3
              cases hq : bareB n u with
              | true => rw [hq] at h3; simp at h3
              | false => rfl
            have hcan := Can_p (u := .s n) (by omega) hu (fit_s (by omega) hn)
            have hcan2 : terms_Can.f (Tm.mk 2 n []) (us.map U.tm) = some false := by
              refine Eq.trans hcan ?_
              congr 1
              exact decide_eq_false (keeps hbare)
            rw [h1]
            simp only [onw, hcan2, known_law, Option.bind_some, Bool.not_false, if_true]
          · rw [show ((0 : Nat) : Int) = 0 from rfl] at h1
            rw [List.drop_zero] at hx
            obtain ⟨u, hu', rfl⟩ := List.mem_map.1 hx
            rw [show Tm.fuel u.tm = Tree.depth u.tm from rfl, bare_u (Nat.le_refl _), Option.bind_some] at h2
            cases hq : bareB n u with
            | false => rw [hq] at h2; simp at h2
            | true =>
              rw [hq] at h2; simp at h2; subst h2
              rw [h1]; rfl
        · rw [law29_TermsKeeps.L0]
          have c' : (i : Int) < ((us.map U.tm).length : Int) := by omega
          simp only [c', decide_true, if_true, nm, Int.toNat_natCast]
          rw [reqT (show (0 : Int) ≤ (i : Int) by omega), reqT trivial]
          obtain ⟨u, hu', e⟩ := List.mem_map.1 (tgetD_mem hi)
          rw [← e] at hst ⊢
          rw [show Tm.fuel u.tm = Tree.depth u.tm from rfl, bare_u (Nat.le_refl _), Option.bind_some] at hst ⊢
          cases hq : bareB n u <;> rw [hq] at hst <;> simp at hst <;> subst hst <;> simp [known_law]
        · rw [law29_TermsKeeps.L0]; simp
        · obtain ⟨u, hu', rfl⟩ := List.mem_map.1 ht
          rw [show Tm.fuel u.tm = Tree.depth u.tm from rfl, bare_u (Nat.le_refl _), Option.bind_some]
          cases bareB n u <;> exact ⟨_, rfl⟩
end Go.Proofs.YtfbogkhgfaibbaaDoor
