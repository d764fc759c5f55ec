import Derived.Test.YtfbogkhgfaibbaaDoorTmU
import Derived.Test.YtfbogkhgfaibbaaDoorTmLearn
namespace Go.Proofs.YtfbogkhgfaibbaaDoor
open Go Go.HW Go.RowKit
set_option linter.unusedVariables false
set_option linter.unusedSimpArgs false

/-! ### the program's functions at terms that fit -/
theorem depth_un (k : Int) (n : Int) (a : Tm) : Tree.depth (Tm.mk k n [a]) = Tree.depth a + 1 := by
  show Tree.depths [a] + 1 = _
  simp only [Tree.depths]
  have := Nat.max_eq_left (Nat.zero_le (Tree.depth a))
  rw [show (Tree.depth a).max 0 = Tree.depth a from this]
theorem depth_bi (k : Int) (n : Int) (a b : Tm) : Tree.depth a + 1 ≤ Tree.depth (Tm.mk k n [a, b]) ∧ Tree.depth b + 1 ≤ Tree.depth (Tm.mk k n [a, b]) := by
  show _ ≤ Tree.depths [a, b] + 1 ∧ _ ≤ Tree.depths [a, b] + 1
  simp only [Tree.depths]
  have h1 := Nat.le_max_left (Tree.depth a) ((Tree.depth b).max 0)
  have h2 := Nat.le_max_right (Tree.depth a) ((Tree.depth b).max 0)
  have h3 := Nat.le_max_left (Tree.depth b) 0
  exact ⟨Nat.add_le_add_right h1 1, Nat.add_le_add_right (Nat.le_trans h3 h2) 1⟩
theorem kind_mk (k n : Int) (l : List Tm) : Tm.kind (Tm.mk k n l) = k := rfl
theorem num_mk (k n : Int) (l : List Tm) : Tm.num (Tm.mk k n l) = n := rfl
theorem kids_mk (k n : Int) (l : List Tm) : Tree.kids (Tm.mk k n l) = l := rfl
theorem depth_leaf (k n : Int) : Tree.depth (Tm.mk k n []) = 1 := rfl
theorem wrap1 : IntKind.i64.wrap 1 = 1 := by decide
theorem wrap2 : IntKind.i64.wrap 2 = 2 := by decide
theorem text_u : ∀ {u : U}, u.ok → u.size ≤ 2000000 → ∀ {k : Nat}, u.tm.depth ≤ k → terms_text.f k u.tm = some u.txt := by
  intro u
  induction u with
  | d n =>
    intro h hs k hk
    cases k with
    | zero => simp [U.tm, depth_leaf] at hk
    | succ k =>
      have := U.txt_len (u := .d n) h
      have h1 := h.1; have h2 := h.2
      simp only [U.txt, U.size, List.length_cons] at this
      show terms_text.F _ (Tm.mk 1 n []) = _
      unfold terms_text.F
      rw [if_pos (by rfl)]
      simp only [req, nm]
      show (if -9223372036854775808 ≤ n then _ else _) = _
      rw [if_pos (by omega)]
      show (if n ≤ 9223372036854775807 then _ else _) = _
      rw [if_pos (by omega), if_pos (by show (fmName 1).length + _ ≤ _; show 1 + (Lib.itoa n).length ≤ _; omega)]
      rfl
  | s n =>
    intro h hs k hk
    cases k with
    | zero => simp [U.tm, depth_leaf] at hk
    | succ k =>
      have := U.txt_len (u := .s n) h
      have h1 := h.1; have h2 := h.2
      simp only [U.txt, U.size, List.length_cons] at this
      show terms_text.F _ (Tm.mk 2 n []) = _
      unfold terms_text.F
      rw [if_pos (by rfl)]
      simp only [req, nm]
      show (if -9223372036854775808 ≤ n then _ else _) = _
      rw [if_pos (by omega)]
      show (if n ≤ 9223372036854775807 then _ else _) = _
      rw [if_pos (by omega), if_pos (by show (fmName 2).length + _ ≤ _; show 1 + (Lib.itoa n).length ≤ _; omega)]
      rfl
  | un c a ih =>
    intro h hs k hk
    cases k with
    | zero => rw [U.tm, depth_un] at hk; omega
    | succ k =>
      rw [U.tm, depth_un] at hk
      simp only [U.size] at hs
      have ha := ih h (by omega) (k := k) (by omega)
      have hl := U.txt_len (u := a) h
      show terms_text.F (terms_text.f k) (Tm.mk c.num 0 [a.tm]) = _
      have hname : fmName c.num = c.name := by cases c <;> rfl
      have hnl : c.name.length ≤ 6 := by cases c <;> decide
      have hargs : ¬ (fmArgs c.num == 0) = true := by cases c <;> decide
      unfold terms_text.F
      refine (if_neg hargs).trans ?_
      simp only [kind_mk, num_mk, kids_mk]
      have e1 : terms_text.L0 (terms_text.f k) (Tm.mk c.num 0 [a.tm]) ((([a.tm].length : Int)).toNat + 1) [] 0 = some [a.txt] := by
        show terms_text.L0 (terms_text.f k) (Tm.mk c.num 0 [a.tm]) 2 [] 0 = _
        simp [terms_text.L0, nm, req, Tm.mk, Tree.kids, ha, wrap1]
      rw [e1]
      have hk2 : Tm.kind (Tm.mk c.num 0 [a.tm]) = c.num := rfl
      have hj : joinL [a.txt] [44] = a.txt := by simp [joinL, Lib.join]
      simp only [Option.bind_some, req, nm, hj, hname, List.length_append, List.length_cons, List.length_nil]
      rw [if_pos (by omega), if_pos (by omega), if_pos (by omega), if_pos (by omega), if_pos (by omega)]
      simp [U.txt]
  | bi c a b iha ihb =>
    intro h hs k hk
    cases k with
    | zero => rw [U.tm] at hk; have := depth_bi c.num 0 a.tm b.tm; omega
    | succ k =>
      rw [U.tm] at hk
      have hd := depth_bi c.num 0 a.tm b.tm
      simp only [U.size] at hs
      have ha := iha h.1 (by omega) (k := k) (by omega)
      have hb := ihb h.2 (by omega) (k := k) (by omega)
      have hl := U.txt_len (u := a) h.1
      have hl2 := U.txt_len (u := b) h.2
      show terms_text.F (terms_text.f k) (Tm.mk c.num 0 [a.tm, b.tm]) = _
      have hname : fmName c.num = c.name := by cases c <;> rfl
      have hnl : c.name.length ≤ 6 := by cases c <;> decide
      have hargs : ¬ (fmArgs c.num == 0) = true := by cases c <;> decide
      unfold terms_text.F
      refine (if_neg hargs).trans ?_
      simp only [kind_mk, num_mk, kids_mk]
      have e1 : terms_text.L0 (terms_text.f k) (Tm.mk c.num 0 [a.tm, b.tm]) ((([a.tm, b.tm].length : Int)).toNat + 1) [] 0 = some [a.txt, b.txt] := by
        show terms_text.L0 (terms_text.f k) (Tm.mk c.num 0 [a.tm, b.tm]) 3 [] 0 = _
        simp [terms_text.L0, nm, req, Tm.mk, Tree.kids, ha, hb, wrap1, wrap2]
      rw [e1]
      have hk2 : Tm.kind (Tm.mk c.num 0 [a.tm, b.tm]) = c.num := rfl
      have hj : joinL [a.txt, b.txt] [44] = a.txt ++ 44 :: b.txt := by simp [joinL, Lib.join, List.intercalate]
      simp only [Option.bind_some, req, nm, hj, hname, List.length_append, List.length_cons, List.length_nil]
      rw [if_pos (by omega), if_pos (by omega), if_pos (by omega), if_pos (by omega), if_pos (by omega)]
      simp [U.txt]
theorem textd {u : U} (h : u.ok) (hs : u.size ≤ 2000000) : terms_text.f (Tm.fuel u.tm) u.tm = some u.txt := text_u h hs (Nat.le_refl _)
end Go.Proofs.YtfbogkhgfaibbaaDoor
