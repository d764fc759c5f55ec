import Derived.Test.YtfbogkhgfaibbaaDoorTmR
import Derived.Test.YtfbogkhgfaibbaaDoorTb2
namespace Go.Proofs.YtfbogkhgfaibbaaDoor
open Go Go.HW Go.RowKit
set_option linter.unusedVariables false
set_option linter.unusedSimpArgs false

/-! ### TermsMeans -/
theorem szTo301 {t : Tm} (h : ¬ 300 < szTo t 301) : tsz t ≤ 300 := by
  unfold szTo at h; split at h <;> omega
/-! ### TermsMakes -/
theorem fit_un {k : K1} {a : U} (h : a.ok) (hs : a.size ≤ 300) : Fit (.un k a) := ⟨h, by show a.size + 1 ≤ 2000; omega⟩
theorem fit_bi {k : K2} {a b : U} (h : a.ok) (h2 : b.ok) (hs : a.size ≤ 300) (hs2 : b.size ≤ 300) : Fit (.bi k a b) := ⟨⟨h, h2⟩, by show a.size + b.size + 1 ≤ 2000; omega⟩
theorem known_pair {us : List U} {a b : U} : Known2 us (U.bi .pair a b).ordr ↔ Known2 us a.ordr ∧ Known2 us b.ordr := by
  rw [ordr_bi, if_neg (fun h => by cases h.1)]; exact Der.pair
theorem known_bi {us : List U} {k : K2} {a b : U} (ha : Known2 us a.ordr) (hb : Known2 us b.ordr) : Known2 us (U.bi k a b).ordr := by
  rw [ordr_bi]
  split
  · rename_i h; rw [h.1]; exact .inr (.inl ⟨hb, .inl ha⟩)
  · cases k
    case shared => exact .inr (.inl ⟨ha, .inl hb⟩)
    all_goals exact .inr ⟨ha, hb⟩
theorem known_un {us : List U} {k : K1} {a : U} (ha : Known2 us a.ordr) : Known2 us (U.un k a).ordr := .inr ha
open Classical in
theorem TermsMakes_law {xs : List Tm} {t u : Tm} (hx : ∀ t ∈ xs, TOk t) (ht : TOk t) (hu : TOk u) : law29_TermsMakes.f xs t u = some true := by
  unfold law29_TermsMakes.f
  obtain ⟨b, e, hb⟩ := much_law xs
  obtain ⟨d, e3, hd⟩ := mayR ht
  obtain ⟨d2, e4, hd2⟩ := mayR hu
  rw [e, Option.bind_some]
  cases b with
  | true => simp [known_law]
  | false =>
    have hb := hb rfl
    obtain ⟨c, e2, hc⟩ := all_law (by omega) hx
    rw [sized t (by decide) (by decide), sized u (by decide) (by decide), e2, e3, e4]
    simp only [Bool.false_eq_true, if_false, Option.bind_some]
    by_cases c1 : 300 < szTo t 301
    · simp [c1, known_law]
    · by_cases c2 : 300 < szTo u 301
      · simp [c1, c2, known_law]
      · cases c with
        | false => simp [c1, c2, known_law]
        | true =>
          cases d with
          | false => simp [c1, c2, known_law]
          | true =>
            cases d2 with
            | false => simp [c1, c2, known_law]
            | true =>
              simp only [c1, c2, decide_false, Bool.false_eq_true, if_false, Option.bind_some, Bool.not_true]
              obtain ⟨us, rfl, hus⟩ := hc rfl
              obtain ⟨v, rfl, hv⟩ := hd rfl
              obtain ⟨z, rfl, hz⟩ := hd2 rfl
              have hul : us.length ≤ 30 := by simpa using hb
              have hvs : v.size ≤ 300 := by have := szTo301 c1; rwa [tsz_u] at this
              have hzs : z.size ≤ 300 := by have := szTo301 c2; rwa [tsz_u] at this
              have hbi : ∀ (k : K2) (a b : U), a.ok → b.ok → a.size ≤ 300 → b.size ≤ 300 → law29_makes.f k.num a.tm b.tm (us.map U.tm) = some (decide (Known2 us (U.bi k a b).ordr)) := fun k a b h1 h2 h3 h4 => by
                have := Can_p (us := us) (by omega) hus (fit_bi (k := k) h1 h2 h3 h4)
                unfold law29_makes.f
                show Option.bind (terms_Can.f (U.bi k a b).tm _) _ = _
                rw [this]; rfl
              have h7 := hbi .pair v z hv.1 hz.1 hvs hzs
              have h8 := hbi .shared v z hv.1 hz.1 hvs hzs
              have h8' := hbi .shared z v hz.1 hv.1 hzs hvs
              have h4 := hbi .enc v z hv.1 hz.1 hvs hzs
              have h5 := hbi .sign v z hv.1 hz.1 hvs hzs
              have h6 := hbi .mac v z hv.1 hz.1 hvs hzs
              have h9 : terms_Can.f (Tm.mk 9 0 [v.tm]) (us.map U.tm) = some (decide (Known2 us (U.un .hash v).ordr)) := Can_p (us := us) (by omega) hus (fit_un (k := .hash) hv.1 hvs)
              have h3 : terms_Can.f (Tm.mk 3 0 [z.tm]) (us.map U.tm) = some (decide (Known2 us (U.un .pub z).ordr)) := Can_p (us := us) (by omega) hus (fit_un (k := .pub) hz.1 hzs)
              simp only [K2.num] at h7 h8 h8' h4 h5 h6
              rw [ordr_swap hz.1 hv.1] at h8'
              rw [Can_p (by omega) hus hv, Can_p (by omega) hus hz]
              simp only [h7, h8, h8', h4, h5, h6, h9, h3, Option.bind_some]
              by_cases k1 : Known2 us v.ordr
              · by_cases k2 : Known2 us z.ordr
                · have p7 : Known2 us (U.bi .pair v z).ordr := known_bi k1 k2
                  have p8 : Known2 us (U.bi .shared v z).ordr := known_bi k1 k2
                  have p4 : Known2 us (U.bi .enc v z).ordr := known_bi k1 k2
                  have p5 : Known2 us (U.bi .sign v z).ordr := known_bi k1 k2
                  have p6 : Known2 us (U.bi .mac v z).ordr := known_bi k1 k2
                  have p9 : Known2 us (U.un .hash v).ordr := known_un k1
                  have p3 : Known2 us (U.un .pub z).ordr := known_un k2
                  simp [k1, k2, p7, p8, p4, p5, p6, p9, p3, known_law]
                · have p7 : ¬ Known2 us (U.bi .pair v z).ordr := fun h => k2 (known_pair.1 h).2
                  simp [k1, k2, p7, known_law]
              · have p7 : ¬ Known2 us (U.bi .pair v z).ordr := fun h => k1 (known_pair.1 h).1
                simp [k1, p7, known_law]
end Go.Proofs.YtfbogkhgfaibbaaDoor
