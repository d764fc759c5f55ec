import Derived.Test.YtfbogkhgfaibbaaDoorTmR
import Derived.Test.YtfbogkhgfaibbaaDoorTb2
namespace Go.Proofs.YtfbogkhgfaibbaaDoor
open Go Go.HW Go.RowKit
set_option linter.unusedVariables false
set_option linter.unusedSimpArgs false

/-! ### TermsMeans -/
theorem known_base {us : List U} {u : U} (h : u ∈ us) : Known2 us u.ordr := Syn.of (Der.base ⟨u, h, rfl⟩)
theorem known_mono {us vs : List U} (h : ∀ u ∈ us, u ∈ vs) {v : U} (hk : Known2 us v) : Known2 vs v := hk.mono fun _ hd => hd.mono fun _ ⟨y, hy, e⟩ => ⟨y, h y hy, e⟩
theorem known_cut {us : List U} {u v : U} (hu : Known2 us u.ordr) (hk : Known2 (us ++ [u]) v) : Known2 us v :=
  Der.cut (fun w ⟨y, hy, e⟩ => by
    rw [e]
    rcases List.mem_append.1 hy with hy | hy
    · exact known_base hy
    · rw [List.mem_singleton.1 hy]; exact hu) hk
open Classical in
theorem TermsMeans_law {xs : List Tm} {t u : Tm} (hx : ∀ t ∈ xs, TOk t) (ht : TOk t) (hu : TOk u) : law29_TermsMeans.f xs t u = some true := by
  unfold law29_TermsMeans.f
  obtain ⟨b, e, hb⟩ := much_law xs
  obtain ⟨d, e3, hd⟩ := mayR ht
  obtain ⟨d2, e4, hd2⟩ := mayR hu
  rw [known_law, Option.bind_some, ff (by rfl), e, Option.bind_some]
  cases b with
  | true => simp
  | false =>
    have hb := hb rfl
    obtain ⟨c, e2, hc⟩ := all_law (by omega) hx
    rw [sized t (by decide) (by decide), sized u (by decide) (by decide), e2, e3, e4]
    simp only [Bool.false_eq_true, if_false, Option.bind_some]
    by_cases c1 : 300 < szTo t 301
    · simp [c1]
    · by_cases c2 : 300 < szTo u 301
      · simp [c1, c2]
      · cases c with
        | false => simp [c1, c2]
        | true =>
          cases d with
          | false => simp [c1, c2]
          | true =>
            cases d2 with
            | false => simp [c1, c2]
            | true =>
              simp only [c1, c2, decide_false, Bool.false_eq_true, if_false, Option.bind_some, Bool.not_true]
              obtain ⟨us, rfl, hus⟩ := hc rfl
              obtain ⟨v, rfl, hv⟩ := hd rfl
              obtain ⟨z, rfl, hz⟩ := hd2 rfl
              have hul : us.length ≤ 30 := by simpa using hb
              have hstep : ∀ t ∈ us.map U.tm, terms_Can.f t (us.map U.tm) = some true := fun t ht => by
                obtain ⟨y, hy, rfl⟩ := List.mem_map.1 ht
                rw [Can_p (by omega) hus (hus y hy), decide_eq_true (known_base hy)]
              have := each_loop (xs := us.map U.tm) (B := Bool) (L := law29_TermsMeans.L0 (us.map U.tm)) (step := fun t => some none) (by simp; omega) (fun q i r hi hst => ?_) (fun q => ?_) (fun t ht => ⟨_, rfl⟩) ((((us.map U.tm).length : Int)).toNat + 1) 0 (by omega) (by omega)
              · rcases this with ⟨h1, h2⟩ | ⟨b, h1, x, hx, h2⟩
                · rw [show ((0 : Nat) : Int) = 0 from rfl] at h1
                  rw [h1]
                  simp only [onw]
                  have eap : us.map U.tm ++ [z.tm] = (us ++ [z]).map U.tm := by simp
                  have hfit : ∀ y ∈ us ++ [z], Fit y := fun y hy => by
                    rcases List.mem_append.1 hy with hy | hy
                    · exact hus y hy
                    · rw [List.mem_singleton.1 hy]; exact hz
                  rw [reqT (by simp; omega), reqT (by simp; omega), eap, Can_p (by omega) hus hv, Can_p (by simp; omega) hfit hv, Can_p (by omega) hus hz, rorderd hv.1 (by have := hv.2; omega)]
                  have hco := Can_p (us := us) (by omega) hus (fit_ordr hv)
                  rw [ordr_idem] at hco
                  simp only [Option.bind_some, hco]
                  by_cases k1 : Known2 us v.ordr
                  · have k2 : Known2 (us ++ [z]) v.ordr := known_mono (fun y hy => List.mem_append_left _ hy) k1
                    by_cases k3 : Known2 us z.ordr <;> simp [k1, k2, k3]
                  · by_cases k3 : Known2 us z.ordr
                    · have k2 : ¬ Known2 (us ++ [z]) v.ordr := fun h => k1 (known_cut k3 h)
                      simp [k1, k2, k3]
                    · simp [k1, k3]
                · cases h2
              · cases hst
                rw [law29_TermsMeans.L0]
                have c' : (i : Int) < ((us.map U.tm).length : Int) := by omega
                simp only [c', decide_true, if_true, nm, Int.toNat_natCast]
                rw [reqT (show (0 : Int) ≤ (i : Int) by omega), reqT trivial, hstep _ (tgetD_mem hi)]
                rfl
              · rw [law29_TermsMeans.L0]; simp

/-! ### TermsMakes -/
end Go.Proofs.YtfbogkhgfaibbaaDoor
