import Derived.Test.YtfbogkhgfaibbaaDoorTmM
import Derived.Test.YtfbogkhgfaibbaaDoorTc1
import Derived.Test.YtfbogkhgfaibbaaDoorTmOnce
import Derived.Test.YtfbogkhgfaibbaaDoorTg3
import Derived.Test.YtfbogkhgfaibbaaDoorTmOf3
section
namespace Go.Proofs.YtfbogkhgfaibbaaDoor
open Go Go.HW Go.RowKit
set_option linter.unusedVariables false
set_option linter.unusedSimpArgs false

/-! ### TermsSeals -/
theorem equal_u : ∀ {u : U} (v : U) {k : Nat}, u.tm.depth ≤ k → ref29_Equal.f k u.tm v.tm = some (decide (u = v)) := by
  intro u
  induction u with
  | d n =>
    intro v k hk
    cases k with
    | zero => simp [U.tm, depth_leaf] at hk
    | succ k =>
      show ref29_Equal.F (ref29_Equal.f k) (Tm.mk 1 n []) v.tm = _
      unfold ref29_Equal.F
      cases v with
      | d m => simp only [kind_mk, num_mk, kids_mk, U.tm]; by_cases e : n = m <;> simp [e, nm, ref29_Equal.L0, kids_mk, onw]
      | s m => simp [kind_mk, num_mk, kids_mk, U.tm]
      | un c b => cases c <;> simp [kind_mk, num_mk, kids_mk, U.tm, K1.num]
      | bi c b d => cases c <;> simp [kind_mk, num_mk, kids_mk, U.tm, K2.num]
  | s n =>
    intro v k hk
    cases k with
    | zero => simp [U.tm, depth_leaf] at hk
    | succ k =>
      show ref29_Equal.F (ref29_Equal.f k) (Tm.mk 2 n []) v.tm = _
      unfold ref29_Equal.F
      cases v with
      | d m => simp [kind_mk, num_mk, kids_mk, U.tm]
      | s m => simp only [kind_mk, num_mk, kids_mk, U.tm]; by_cases e : n = m <;> simp [e, nm, ref29_Equal.L0, kids_mk, onw]
      | un c b => cases c <;> simp [kind_mk, num_mk, kids_mk, U.tm, K1.num]
      | bi c b d => cases c <;> simp [kind_mk, num_mk, kids_mk, U.tm, K2.num]
  | un c a ih =>
    intro v k hk
    cases k with
    | zero => rw [U.tm, depth_un] at hk; omega
    | succ k =>
      rw [U.tm, depth_un] at hk
      show ref29_Equal.F (ref29_Equal.f k) (Tm.mk c.num 0 [a.tm]) v.tm = _
      unfold ref29_Equal.F
      cases v with
      | d m => cases c <;> simp [kind_mk, num_mk, kids_mk, U.tm, K1.num]
      | s m => cases c <;> simp [kind_mk, num_mk, kids_mk, U.tm, K1.num]
      | un c2 b =>
        have hb := ih b (k := k) (by omega)
        by_cases e : a = b
        · subst e; cases c <;> cases c2 <;> simp [kind_mk, num_mk, kids_mk, U.tm, K1.num, nm, req, ref29_Equal.L0, onw, hb, wrap1]
        · cases c <;> cases c2 <;> simp [kind_mk, num_mk, kids_mk, U.tm, K1.num, nm, req, ref29_Equal.L0, onw, hb, e, wrap1]
      | bi c2 b d => cases c <;> cases c2 <;> simp [kind_mk, num_mk, kids_mk, U.tm, K1.num, K2.num, nm]
  | bi c a b iha ihb =>
    intro v k hk
    cases k with
    | zero => rw [U.tm] at hk; have := depth_bi c.num 0 a.tm b.tm; omega
    | succ k =>
      rw [U.tm] at hk
      have hd := depth_bi c.num 0 a.tm b.tm
      show ref29_Equal.F (ref29_Equal.f k) (Tm.mk c.num 0 [a.tm, b.tm]) v.tm = _
      unfold ref29_Equal.F
      cases v with
      | d m => cases c <;> simp [kind_mk, num_mk, kids_mk, U.tm, K2.num]
      | s m => cases c <;> simp [kind_mk, num_mk, kids_mk, U.tm, K2.num]
      | un c2 d => cases c <;> cases c2 <;> simp [kind_mk, num_mk, kids_mk, U.tm, K1.num, K2.num, nm]
      | bi c2 d g =>
        have h1 := iha d (k := k) (by omega)
        have h2 := ihb g (k := k) (by omega)
        by_cases e : a = d
        · subst e
          by_cases e2 : b = g
          · subst e2; cases c <;> cases c2 <;> simp [kind_mk, num_mk, kids_mk, U.tm, K2.num, nm, req, ref29_Equal.L0, onw, h1, h2, wrap1, wrap2]
          · cases c <;> cases c2 <;> simp [kind_mk, num_mk, kids_mk, U.tm, K2.num, nm, req, ref29_Equal.L0, onw, h1, h2, e2, wrap1, wrap2]
        · cases c <;> cases c2 <;> simp [kind_mk, num_mk, kids_mk, U.tm, K2.num, nm, req, ref29_Equal.L0, onw, h1, e, wrap1, wrap2]
end Go.Proofs.YtfbogkhgfaibbaaDoor
end

section
namespace Go.Proofs.YtfbogkhgfaibbaaDoor
open Go Go.HW Go.RowKit
set_option linter.unusedVariables false
set_option linter.unusedSimpArgs false

/-! ### both Of's: the term whose text it is -/
def IsText (s : List UInt8) (u : U) : Prop := Fit u ∧ u.txt = s
theorem depth_size : ∀ (u : U), u.tm.depth ≤ u.size
  | .d _ => by simp [U.tm, depth_leaf, U.size]
  | .s _ => by simp [U.tm, depth_leaf, U.size]
  | .un k a => by rw [U.tm, depth_un, U.size]; have := depth_size a; omega
  | .bi k a b => by
    rw [U.tm, U.size]
    have h1 := depth_size a
    have h2 := depth_size b
    have : Tree.depth (Tm.mk k.num 0 [a.tm, b.tm]) = 1 + max (Tree.depth a.tm) (Tree.depth b.tm) := by
      have h3 := depth_bi k.num 0 a.tm b.tm
      simp [Tm.mk, Tree.depth, Tree.depths]
      rw [show (Tree.depth a.tm).max (Tree.depth b.tm) = max (Tree.depth a.tm) (Tree.depth b.tm) from rfl, Nat.add_comm]
    omega
theorem size_txt : ∀ (u : U), u.size ≤ u.txt.length
  | .d _ => by simp [U.txt, U.size]
  | .s _ => by simp [U.txt, U.size]
  | .un k a => by have := size_txt a; simp [U.txt, U.size]; omega
  | .bi k a b => by have := size_txt a; have := size_txt b; simp [U.txt, U.size]; omega
theorem may_both {t : Tm} (h : TOk t) : (∃ u, u.tm = t ∧ Fit u ∧ terms_May.f t = some true ∧ ref29_May.f t = some true) ∨ ((¬ ∃ u, u.tm = t ∧ Fit u) ∧ terms_May.f t = some false ∧ ref29_May.f t = some false) := by
  obtain ⟨b, e1, h1⟩ := may_any h
  obtain ⟨d, e2, h2⟩ := mayR h
  by_cases c : ∃ u, u.tm = t ∧ Fit u
  · obtain ⟨u, rfl, hu⟩ := c
    exact .inl ⟨u, rfl, hu, may_u hu, mayR_u hu⟩
  · refine .inr ⟨c, ?_, ?_⟩
    · cases b with
      | true => exact absurd (h1 rfl) c
      | false => exact e1
    · cases d with
      | true => exact absurd (h2 rfl) c
      | false => exact e2
theorem Of_yes {s : List UInt8} (hs : s.length ≤ 100000) {u : U} (h : IsText s u) : terms_Of.f s = some (u.tm, 0) := by
  obtain ⟨hf, rfl⟩ := h
  have hz := hf.2
  have hr := read_u hf.1 (k := u.txt.length + 2) (left := 2000) (r := []) (by have := depth_size u; have := size_txt u; omega) (by omega) (by omega) (by simp; omega) (.inl rfl)
  rw [List.append_nil] at hr
  unfold terms_Of.f
  rw [show terms_forms.f = some () from rfl, Option.bind_some, hr, Option.bind_some]
  simp only [Bool.not_true, Bool.false_eq_true, if_false, beq_self_eq_true, Option.bind_some, may_u hf]
  rw [textd hf.1 (by omega)]
  simp
theorem Of_no {s : List UInt8} (hs : s.length ≤ 100000) (h : ¬ ∃ u, IsText s u) : terms_Of.f s = some (Tm.mk 0 0 [], 4) := by
  obtain ⟨t, rest, g, l', e, ht, -, -, -⟩ := read_total (s.length + 2) s 2000 (by omega) hs (by omega) (by omega)
  unfold terms_Of.f
  rw [show terms_forms.f = some () from rfl, Option.bind_some, e, Option.bind_some]
  rcases may_both ht with ⟨u, rfl, hu, m1, -⟩ | ⟨-, m1, -⟩
  · have hne : u.txt ≠ s := fun e => h ⟨u, hu, e⟩
    have hz := hu.2
    simp only [m1, Option.bind_some]
    rw [textd hu.1 (by omega)]
    cases g with
    | false => simp
    | true =>
      cases hq : (rest == ([] : List UInt8)) with
      | false => simp
      | true => simp [hne]
  · simp only [m1, Option.bind_some]
    cases g with
    | false => simp
    | true =>
      cases hq : (rest == ([] : List UInt8)) with
      | false => simp
      | true => simp
theorem rOf_yes {s : List UInt8} (hs : s.length ≤ 100000) {u : U} (h : IsText s u) : ref29_Of.f s = some (u.tm, true) := by
  obtain ⟨hf, rfl⟩ := h
  have hz := hf.2
  have hr := rread_u hf.1 (k := u.txt.length + 2) (left := 2000) (p := []) (r := []) (by have := depth_size u; have := size_txt u; omega) (by omega) (by omega) (by simp; omega) (.inl rfl)
  simp only [List.append_nil, List.nil_append, List.length_nil, Nat.zero_add] at hr
  unfold ref29_Of.f
  rw [show (0 : Int) = ((0 : Nat) : Int) from rfl, hr, Option.bind_some]
  simp only [bne_self_eq_false, Bool.false_eq_true, if_false, Option.bind_some, mayR_u hf]
  rw [rtextd hf.1 (by omega)]
  simp
theorem rOf_no {s : List UInt8} (hs : s.length ≤ 100000) (h : ¬ ∃ u, IsText s u) : ref29_Of.f s = some (Tm.mk 0 0 [], false) := by
  obtain ⟨t, e, l', eq, ht, -, -, -⟩ := rread_total (s := s) (by omega) (s.length + 2) 0 2000 (by omega) (by omega) (by omega) (by omega)
  unfold ref29_Of.f
  rw [show (0 : Int) = ((0 : Nat) : Int) from rfl, eq, Option.bind_some]
  rcases may_both ht with ⟨u, rfl, hu, -, m1⟩ | ⟨-, -, m1⟩
  · have hne : u.txt ≠ s := fun e => h ⟨u, hu, e⟩
    have hz := hu.2
    simp only [m1, Option.bind_some]
    rw [rtextd hu.1 (by omega)]
    cases hq : (e != (s.length : Int)) with
    | true => simp
    | false => simp [hne]
  · simp only [m1, Option.bind_some]
    cases hq : (e != (s.length : Int)) with
    | true => simp
    | false => simp
/-! ### Text, Order, Same -/
theorem Text_u {u : U} (h : Fit u) : terms_Text.f u.tm = some (u.txt, 0) := by
  have := h.2
  unfold terms_Text.f
  rw [may_u h, Option.bind_some]
  simp only [Bool.not_true, Bool.false_eq_true, if_false]
  rw [show terms_forms.f = some () from rfl, Option.bind_some, textd h.1 (by omega)]; rfl
theorem Text_no {t : Tm} (h : terms_May.f t = some false) : terms_Text.f t = some ([], 2) := by
  unfold terms_Text.f; rw [h]; rfl
theorem Order_u {u : U} (h : Fit u) : terms_Order.f u.tm = some u.ordr.tm := by
  have := h.2
  unfold terms_Order.f
  rw [may_u h, Option.bind_some]
  simp only [Bool.not_true, Bool.false_eq_true, if_false]
  rw [show terms_forms.f = some () from rfl, Option.bind_some, orderd h.1 (by omega)]; rfl
theorem Order_no {t : Tm} (h : terms_May.f t = some false) : terms_Order.f t = some t := by
  unfold terms_Order.f; rw [h]; rfl
theorem name_u {u : U} (h : Fit u) : terms_name.f u.tm = some u.ordr.txt := by
  have := h.2
  unfold terms_name.f
  rw [show terms_forms.f = some () from rfl, Option.bind_some, orderd h.1 (by omega), Option.bind_some]
  show Option.bind (terms_text.f (Tm.fuel u.ordr.tm) u.ordr.tm) _ = _
  rw [textd (ordr_ok h.1) (by rw [ordr_size]; omega)]; rfl
theorem Same_u {u v : U} (h : Fit u) (h2 : Fit v) : terms_Same.f u.tm v.tm = some (u.ordr.txt == v.ordr.txt) := by
  unfold terms_Same.f
  rw [may_u h, may_u h2, name_u h, name_u h2]; rfl
theorem Same_no1 {t u : Tm} (h : terms_May.f t = some false) : terms_Same.f t u = some false := by
  unfold terms_Same.f; rw [h]; rfl
theorem Same_no2 {t u : Tm} {b : Bool} (h1 : terms_May.f t = some b) (h : terms_May.f u = some false) : terms_Same.f t u = some false := by
  unfold terms_Same.f; rw [h1, h]; cases b <;> rfl
theorem ordr_eq {u v : U} (h : Fit u) (h2 : Fit v) : (u.ordr.txt == v.ordr.txt) = decide (u.ordr = v.ordr) := by
  by_cases e : u.ordr = v.ordr
  · simp [e]
  · have : u.ordr.txt ≠ v.ordr.txt := fun h3 => e (txt_inj (ordr_ok h.1) (ordr_ok h2.1) h3)
    simp [e, this]
theorem equal0 : ref29_Equal.f (Tm.fuel (Tm.mk 0 0 [])) (Tm.mk 0 0 []) (Tm.mk 0 0 []) = some true := by kernel_rfl
theorem TermsLooks_law {t u : Tm} {s : List UInt8} (ht : TOk t) (hu : TOk u) : law29_TermsLooks.f t u s = some true := by
  unfold law29_TermsLooks.f
  rw [sized t (by decide) (by decide), sized u (by decide) (by decide)]
  simp only [Option.bind_some]
  by_cases c1 : 300 < szTo t 301
  · simp [c1, known_law]
  · by_cases c2 : 300 < szTo u 301
    · simp [c1, c2, known_law]
    · by_cases c3 : 3000 < (s.length : Int)
      · simp [c1, c2, c3, known_law]
      · simp only [c1, c2, c3, decide_false, Bool.false_eq_true, if_false, Option.bind_some]
        have hof : ∃ z f ok, terms_Of.f s = some (z, f) ∧ ref29_Of.f s = some (z, ok) ∧ ref29_Equal.f (Tm.fuel z) z z = some true ∧ ((f == 0) = ok) ∧ (ok = false → f = 4) := by
          by_cases c : ∃ v, IsText s v
          · obtain ⟨v, hv⟩ := c
            refine ⟨v.tm, 0, true, Of_yes (by omega) hv, rOf_yes (by omega) hv, ?_, rfl, fun h => by cases h⟩
            have := equal_u (u := v) v (k := Tm.fuel v.tm) (Nat.le_refl _)
            rw [this]; simp
          · exact ⟨_, 4, false, Of_no (by omega) c, rOf_no (by omega) c, equal0, rfl, fun _ => rfl⟩
        obtain ⟨z, f, ok, o1, o2, o3, o4, o5⟩ := hof
        have heq : ref29_Equal.f (Tm.fuel t) t t = some true := equal_self _ t (Nat.le_refl _) (by have := szTo301 c1; omega)
        have hnum : ∀ n : Int, law29_num.f n = some n := fun n => rfl
        have h4 : (if (!ok) = true then (some (f != 4)) else (some false)) = some false := by
          cases hq : ok with
          | true => rfl
          | false => rw [o5 hq]; rfl
        rw [o1, o2]
        rcases may_both ht with ⟨v, rfl, hv, m1, m2⟩ | ⟨-, m1, m2⟩
        · have hvz := hv.2
          have hvo := fit_ordr hv
          rw [Text_u hv, m1, m2, Order_u hv, rorderd hv.1 (by omega), rtextd hv.1 (by omega)]
          have heo : ref29_Equal.f (Tm.fuel v.ordr.tm) v.ordr.tm v.ordr.tm = some true := by
            rw [equal_u (u := v.ordr) v.ordr (k := Tm.fuel v.ordr.tm) (Nat.le_refl _)]; simp
          rcases may_both hu with ⟨w, rfl, hw, n1, n2⟩ | ⟨-, n1, n2⟩
          · have hwz := hw.2
            rw [Same_u hv hw, n2, rorderd hw.1 (by omega)]
            have heq2 : ref29_Equal.f (Tm.fuel v.ordr.tm) v.ordr.tm w.ordr.tm = some (decide (v.ordr = w.ordr)) := equal_u _ (Nat.le_refl _)
            simp only [Option.bind_some, beq_self_eq_true, Bool.not_true, Bool.false_eq_true, if_false, o3, hnum, o4, h4, if_true, heq2, ordr_eq hv hw, heo, known_law]
          · rw [Same_no2 m1 n1, n2]
            simp only [Option.bind_some, beq_self_eq_true, Bool.not_true, Bool.false_eq_true, if_false, o3, hnum, o4, h4, if_true, heo, known_law]
        · rw [Text_no m1, m1, m2, Same_no1 m1, Order_no m1]
          simp only [Option.bind_some, beq_self_eq_true, Bool.not_true, Bool.not_false, Bool.false_eq_true, if_false, o3, hnum, o4, h4, if_true, heq, known_law]
end Go.Proofs.YtfbogkhgfaibbaaDoor
end
