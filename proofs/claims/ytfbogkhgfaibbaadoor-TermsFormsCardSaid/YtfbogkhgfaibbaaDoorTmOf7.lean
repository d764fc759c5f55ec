import Derived.Test.YtfbogkhgfaibbaaDoorTmM
import Derived.Test.YtfbogkhgfaibbaaDoorTc1
import Derived.Test.YtfbogkhgfaibbaaDoorTmOnce
import Derived.Test.YtfbogkhgfaibbaaDoorTg3
section
namespace Go.Proofs.YtfbogkhgfaibbaaDoor
open Go Go.HW Go.RowKit
set_option linter.unusedVariables false
set_option linter.unusedSimpArgs false

/-! ### TermsSeals -/
end Go.Proofs.YtfbogkhgfaibbaaDoor
end

section
namespace Go.Proofs.YtfbogkhgfaibbaaDoor
open Go Go.HW Go.RowKit
set_option linter.unusedVariables false
set_option linter.unusedSimpArgs false

/-! ### both Of's: the term whose text it is -/
def IsText (s : List UInt8) (u : U) : Prop := Fit u ∧ u.txt = s
theorem depth_size : ∀ (u : U), u.tm.depth ≤ u.size
  | .d _ => by simp [U.tm, depth_leaf, U.size]
  | .s _ => by simp [U.tm, depth_leaf, U.size]
  | .un k a => by rw [U.tm, depth_un, U.size]; have := depth_size a; omega
  | .bi k a b => by
    rw [U.tm, U.size]
    have h1 := depth_size a
    have h2 := depth_size b
    have : Tree.depth (Tm.mk k.num 0 [a.tm, b.tm]) = 1 + max (Tree.depth a.tm) (Tree.depth b.tm) := by
      have h3 := depth_bi k.num 0 a.tm b.tm
      simp [Tm.mk, Tree.depth, Tree.depths]
      rw [show (Tree.depth a.tm).max (Tree.depth b.tm) = max (Tree.depth a.tm) (Tree.depth b.tm) from rfl, Nat.add_comm]
    omega
theorem size_txt : ∀ (u : U), u.size ≤ u.txt.length
  | .d _ => by simp [U.txt, U.size]
  | .s _ => by simp [U.txt, U.size]
  | .un k a => by have := size_txt a; simp [U.txt, U.size]; omega
  | .bi k a b => by have := size_txt a; have := size_txt b; simp [U.txt, U.size]; omega
theorem may_both {t : Tm} (h : TOk t) : (∃ u, u.tm = t ∧ Fit u ∧ terms_May.f t = some true ∧ ref29_May.f t = some true) ∨ ((¬ ∃ u, u.tm = t ∧ Fit u) ∧ terms_May.f t = some false ∧ ref29_May.f t = some false) := by
  obtain ⟨b, e1, h1⟩ := may_any h
  obtain ⟨d, e2, h2⟩ := mayR h
  by_cases c : ∃ u, u.tm = t ∧ Fit u
  · obtain ⟨u, rfl, hu⟩ := c
    exact .inl ⟨u, rfl, hu, may_u hu, mayR_u hu⟩
  · refine .inr ⟨c, ?_, ?_⟩
    · cases b with
      | true => exact absurd (h1 rfl) c
      | false => exact e1
    · cases d with
      | true => exact absurd (h2 rfl) c
      | false => exact e2
theorem Of_yes {s : List UInt8} (hs : s.length ≤ 100000) {u : U} (h : IsText s u) : terms_Of.f s = some (u.tm, 0) := by
  obtain ⟨hf, rfl⟩ := h
  have hz := hf.2
  have hr := read_u hf.1 (k := u.txt.length + 2) (left := 2000) (r := []) (by have := depth_size u; have := size_txt u; omega) (by omega) (by omega) (by simp; omega) (.inl rfl)
  rw [List.append_nil] at hr
  unfold terms_Of.f
  rw [show terms_forms.f = some () from rfl, Option.bind_some, hr, Option.bind_some]
  simp only [Bool.not_true, Bool.false_eq_true, if_false, beq_self_eq_true, Option.bind_some, may_u hf]
  rw [textd hf.1 (by omega)]
  simp
theorem Of_no {s : List UInt8} (hs : s.length ≤ 100000) (h : ¬ ∃ u, IsText s u) : terms_Of.f s = some (Tm.mk 0 0 [], 4) := by
  obtain ⟨t, rest, g, l', e, ht, -, -, -⟩ := read_total (s.length + 2) s 2000 (by omega) hs (by omega) (by omega)
  unfold terms_Of.f
  rw [show terms_forms.f = some () from rfl, Option.bind_some, e, Option.bind_some]
  rcases may_both ht with ⟨u, rfl, hu, m1, -⟩ | ⟨-, m1, -⟩
  · have hne : u.txt ≠ s := fun e => h ⟨u, hu, e⟩
    have hz := hu.2
    simp only [m1, Option.bind_some]
    rw [textd hu.1 (by omega)]
    cases g with
    | false => simp
    | true =>
      cases hq : (rest == ([] : List UInt8)) with
      | false => simp
      | true => simp [hne]
  · simp only [m1, Option.bind_some]
    cases g with
    | false => simp
    | true =>
      cases hq : (rest == ([] : List UInt8)) with
      | false => simp
      | true => simp
/-! ### Text, Order, Same -/
theorem Text_u {u : U} (h : Fit u) : terms_Text.f u.tm = some (u.txt, 0) := by
  have := h.2
  unfold terms_Text.f
  rw [may_u h, Option.bind_some]
  simp only [Bool.not_true, Bool.false_eq_true, if_false]
  rw [show terms_forms.f = some () from rfl, Option.bind_some, textd h.1 (by omega)]; rfl
theorem Text_no {t : Tm} (h : terms_May.f t = some false) : terms_Text.f t = some ([], 2) := by
  unfold terms_Text.f; rw [h]; rfl
theorem Order_u {u : U} (h : Fit u) : terms_Order.f u.tm = some u.ordr.tm := by
  have := h.2
  unfold terms_Order.f
  rw [may_u h, Option.bind_some]
  simp only [Bool.not_true, Bool.false_eq_true, if_false]
  rw [show terms_forms.f = some () from rfl, Option.bind_some, orderd h.1 (by omega)]; rfl
theorem Order_no {t : Tm} (h : terms_May.f t = some false) : terms_Order.f t = some t := by
  unfold terms_Order.f; rw [h]; rfl
theorem name_u {u : U} (h : Fit u) : terms_name.f u.tm = some u.ordr.txt := by
  have := h.2
  unfold terms_name.f
  rw [show terms_forms.f = some () from rfl, Option.bind_some, orderd h.1 (by omega), Option.bind_some]
  show Option.bind (terms_text.f (Tm.fuel u.ordr.tm) u.ordr.tm) _ = _
  rw [textd (ordr_ok h.1) (by rw [ordr_size]; omega)]; rfl
theorem Same_u {u v : U} (h : Fit u) (h2 : Fit v) : terms_Same.f u.tm v.tm = some (u.ordr.txt == v.ordr.txt) := by
  unfold terms_Same.f
  rw [may_u h, may_u h2, name_u h, name_u h2]; rfl
theorem TermsForms_law {t u : Tm} {s : List UInt8} (ht : TOk t) (hu : TOk u) : law29_TermsForms.f t u s = some true := by
  unfold law29_TermsForms.f
  rw [sized t (by decide) (by decide), sized u (by decide) (by decide)]
  simp only [Option.bind_some]
  by_cases c1 : 300 < szTo t 301
  · simp [c1, known_law]
  · by_cases c2 : 300 < szTo u 301
    · simp [c1, c2, known_law]
    · by_cases c3 : 3000 < (s.length : Int)
      · simp [c1, c2, c3, known_law]
      · simp only [c1, c2, c3, decide_false, Bool.false_eq_true, if_false, Option.bind_some]
        have hnum : ∀ n : Int, law29_num.f n = some n := fun n => rfl
        have hof : ∃ z f, terms_Of.f s = some (z, f) ∧ (f = 4 ∨ f = 0 ∧ terms_Text.f z = some (s, 0)) := by
          by_cases c : ∃ v, IsText s v
          · obtain ⟨v, hv⟩ := c
            exact ⟨v.tm, 0, Of_yes (by omega) hv, .inr ⟨rfl, by rw [Text_u hv.1, hv.2]⟩⟩
          · exact ⟨_, 4, Of_no (by omega) c, .inl rfl⟩
        obtain ⟨z, f, o1, o2⟩ := hof
        have hend : ((terms_Of.f s).bind fun (t101_0, t101_1) => (law29_num.f t101_1).bind fun t107 => if (t107 == 0) = true then ((terms_Text.f t101_0).bind fun (t112_0, t112_1) => (if (!(t112_0 == s)) = true then (some true) else ((law29_num.f t112_1).bind fun t123 => some (t123 != 0))).bind fun q116 => if q116 = true then (some false) else ((law29_known.f).bind fun t129 => some t129)) else ((law29_known.f).bind fun t133 => some t133)) = some true := by
          rw [o1]
          rcases o2 with rfl | ⟨rfl, o2⟩
          · simp [hnum, known_law]
          · simp [hnum, known_law, o2]
        have w0 : IntKind.i64.wrap (0 + 0) = 0 := by decide
        have w2 : IntKind.i64.wrap (0 + 2) = 2 := by decide
        have w3 : IntKind.i64.wrap (2 + 0) = 2 := by decide
        have w4 : IntKind.i64.wrap (2 + 2) = 4 := by decide
        simp only [hnum] at hend
        rcases may_both ht with ⟨v, rfl, hv, m1, m2⟩ | ⟨-, m1, m2⟩
        · have a1 := Order_u hv
          have a2 := Order_u (fit_ordr hv)
          rw [ordr_idem] at a2
          have a3 := Text_u (fit_ordr hv)
          rcases may_both hu with ⟨w, rfl, hw, n1, n2⟩ | ⟨-, n1, n2⟩
          · have b1 := Order_u hw
            have b3 := Text_u (fit_ordr hw)
            have b4 := Same_u hv hw
            simp only [a1, a2, a3, b1, b3, b4, hnum, Option.bind_some, bne_self_eq_false, beq_self_eq_true, Bool.not_true, Bool.false_eq_true, if_false, w0, if_true]
            exact hend
          · have b1 := Order_no n1
            have b3 := Text_no n1
            simp only [a1, a2, a3, b1, b3, hnum, Option.bind_some, bne_self_eq_false, beq_self_eq_true, Bool.not_true, Bool.false_eq_true, if_false, w2, show ((2 : Int) == 0) = false from rfl]
            exact hend
        · have a1 := Order_no m1
          have a3 := Text_no m1
          rcases may_both hu with ⟨w, rfl, hw, n1, n2⟩ | ⟨-, n1, n2⟩
          · have b1 := Order_u hw
            have b3 := Text_u (fit_ordr hw)
            simp only [a1, a3, b1, b3, hnum, Option.bind_some, bne_self_eq_false, beq_self_eq_true, Bool.not_true, Bool.false_eq_true, if_false, w3, show ((2 : Int) == 0) = false from rfl]
            exact hend
          · have b1 := Order_no n1
            have b3 := Text_no n1
            simp only [a1, a3, b1, b3, hnum, Option.bind_some, bne_self_eq_false, beq_self_eq_true, Bool.not_true, Bool.false_eq_true, if_false, w4, show ((4 : Int) == 0) = false from rfl]
            exact hend
end Go.Proofs.YtfbogkhgfaibbaaDoor
end
