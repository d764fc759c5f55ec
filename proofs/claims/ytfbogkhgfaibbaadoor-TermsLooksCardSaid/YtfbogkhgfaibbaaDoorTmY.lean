import Derived.Test.YtfbogkhgfaibbaaDoorTmX
import Derived.Test.YtfbogkhgfaibbaaDoorTb1
namespace Go.Proofs.YtfbogkhgfaibbaaDoor
open Go Go.HW Go.RowKit
set_option linter.unusedVariables false
set_option linter.unusedSimpArgs false

/-! ### any terms -/
def i64 (x : Int) : Prop := -9223372036854775808 ≤ x ∧ x ≤ 9223372036854775807
mutual
def TOk : Tm → Prop
  | .node p ks => i64 p.1 ∧ i64 p.2 ∧ TOks ks
def TOks : List Tm → Prop
  | [] => True
  | t :: r => TOk t ∧ TOks r
end
mutual
def tsz : Tm → Nat
  | .node _ ks => 1 + tszs ks
def tszs : List Tm → Nat
  | [] => 0
  | t :: r => tsz t + tszs r
end
theorem TOks_mem : ∀ {ks : List Tm}, TOks ks → ∀ t ∈ ks, TOk t
  | [], _, _, h => by cases h
  | a :: r, h, t, ht => by
    rw [TOks] at h
    rcases List.mem_cons.1 ht with rfl | ht
    · exact h.1
    · exact TOks_mem h.2 t ht
theorem TOks_of : ∀ {ks : List Tm}, (∀ t ∈ ks, TOk t) → TOks ks
  | [], _ => by rw [TOks]; trivial
  | a :: r, h => by rw [TOks]; exact ⟨h a (by simp), TOks_of fun t ht => h t (by simp [ht])⟩
theorem TOk_iff (v : Tm) : TOk v ↔ i64 (Tm.kind v) ∧ i64 (Tm.num v) ∧ ∀ t ∈ Tree.kids v, TOk t := by
  cases v with
  | node p ks => rw [TOk]; exact ⟨fun ⟨a, b, c⟩ => ⟨a, b, TOks_mem c⟩, fun ⟨a, b, c⟩ => ⟨a, b, TOks_of c⟩⟩
theorem tsz_eq (v : Tm) : tsz v = 1 + tszs (Tree.kids v) := by cases v; rw [tsz]; rfl
theorem tsz_pos (v : Tm) : 1 ≤ tsz v := by rw [tsz_eq]; omega
theorem tszs_len : ∀ ks : List Tm, ks.length ≤ tszs ks
  | [] => by simp
  | a :: r => by rw [tszs]; have := tszs_len r; have := tsz_pos a; simp; omega
theorem tszs_mem : ∀ {ks : List Tm}, ∀ t ∈ ks, tsz t ≤ tszs ks
  | [], _, h => by cases h
  | a :: r, t, ht => by
    rw [tszs]
    rcases List.mem_cons.1 ht with rfl | ht
    · omega
    · have := tszs_mem t ht; omega
theorem tdepth_kid {v t : Tm} (h : t ∈ Tree.kids v) : Tree.depth t + 1 ≤ Tree.depth v := by
  cases v with
  | node p ks =>
    rw [Tree.depth]
    have : ∀ {ks : List Tm}, t ∈ ks → Tree.depth t ≤ Tree.depths ks := by
      intro ks
      induction ks with
      | nil => intro h; cases h
      | cons a r ih =>
        intro h
        rw [Tree.depths]
        rcases List.mem_cons.1 h with rfl | h
        · exact Nat.le_max_left _ _
        · exact Nat.le_trans (ih h) (Nat.le_max_right _ _)
    have := this (ks := ks) h
    omega
theorem tdepth_pos (v : Tm) : 1 ≤ Tree.depth v := by cases v; rw [Tree.depth]; omega
theorem tsz_u : ∀ (u : U), tsz u.tm = u.size
  | .d n => rfl
  | .s n => rfl
  | .un k a => by
    have := tsz_u a
    show tsz (Tm.mk k.num 0 [a.tm]) = _
    rw [tsz_eq, kids_mk, tszs, tszs, this]; simp only [U.size]; omega
  | .bi k a b => by
    have h1 := tsz_u a
    have h2 := tsz_u b
    show tsz (Tm.mk k.num 0 [a.tm, b.tm]) = _
    rw [tsz_eq, kids_mk, tszs, tszs, tszs, h1, h2]; simp only [U.size]; omega
theorem tgetD_mem {xs : List Tm} {i : Nat} (h : i < xs.length) : xs.getD i Tm.dflt ∈ xs := List.mem_of_getElem? (getD_some Tm.dflt h)
theorem tdrop {xs : List Tm} {i : Nat} (h : i < xs.length) : xs.drop i = xs.getD i Tm.dflt :: xs.drop (i + 1) := by
  rw [List.drop_eq_getElem_cons h]; simp [List.getElem?_eq_getElem h]
theorem w64 {n : Int} (h0 : -9223372036854775808 ≤ n) (h1 : n ≤ 9223372036854775807) : IntKind.i64.wrap n = n := by rw [IntKind.wrap_i64]; omega
theorem reqT {α : Type} {p : Prop} [Decidable p] {x : Option α} (h : p) : req p x = x := if_pos h
theorem tt {b : Bool} {α : Type} {x y : α} (h : b = true) : (if b = true then x else y) = x := if_pos h
theorem ff {b : Bool} {α : Type} {x y : α} (h : b = false) : (if b = true then x else y) = y := if_neg (by rw [h]; exact Bool.false_ne_true)

/-! #### size -/
def szTo (t : Tm) (a : Int) : Int := if (tsz t : Int) ≤ a then tsz t else a + 1
theorem size_L0 (r : Tm → Int → Option Int) (v : Tm) (a : Int) (ha : a ≤ 1000000000) (hr : ∀ t ∈ Tree.kids v, ∀ b, 0 ≤ b → b ≤ a → r t b = some (szTo t b)) :
    ∀ (k i : Nat) (x : Int), (a + 1 - x).toNat < k → 1 ≤ x → x ≤ a + 1 → (i : Int) + 1 ≤ x → i ≤ (Tree.kids v).length → ref29_Size.L0 r v a k x (i : Int) = some (if x + (tszs ((Tree.kids v).drop i) : Int) ≤ a then x + (tszs ((Tree.kids v).drop i) : Int) else if x ≤ a then a + 1 else x)
  | 0, i, x, hk, _, _, _, _ => by omega
  | k + 1, i, x, hk, h1, h2, h3, h4 => by
    rw [ref29_Size.L0]
    by_cases c : i < (Tree.kids v).length
    · have c' : (i : Int) < ((Tree.kids v).length : Int) := by omega
      by_cases c2 : x ≤ a
      · simp only [c', c2, decide_true, if_true, Option.bind_some, nm, Int.toNat_natCast]
        rw [reqT (show (0 : Int) ≤ (i : Int) by omega), reqT trivial, w64 (by omega) (by omega), hr _ (tgetD_mem c) _ (by omega) (by omega), Option.bind_some, wrap_succ (by omega)]
        have hz : 1 ≤ szTo ((Tree.kids v).getD i Tm.dflt) (a - x) ∧ szTo ((Tree.kids v).getD i Tm.dflt) (a - x) ≤ a - x + 1 := by
          unfold szTo; have := tsz_pos ((Tree.kids v).getD i Tm.dflt); split <;> omega
        rw [w64 (by omega) (by omega), size_L0 r v a ha hr k (i + 1) _ (by omega) (by omega) (by omega) (by omega) (by omega), tdrop c, tszs]
        unfold szTo at hz ⊢
        have := tsz_pos ((Tree.kids v).getD i Tm.dflt)
        congr 1
        by_cases c3 : (tsz ((Tree.kids v).getD i Tm.dflt) : Int) ≤ a - x
        · simp only [c3, if_true]
          split <;> split <;> (try split) <;> omega
        · simp only [c3, if_false]
          split <;> split <;> (try split) <;> omega
      · simp only [c', c2, decide_true, decide_false, if_true, Option.bind_some, Bool.false_eq_true, if_false]
        rw [if_neg (by omega)]
    · have c' : ¬ (i : Int) < ((Tree.kids v).length : Int) := by omega
      simp only [c', decide_false, Bool.false_eq_true, if_false, Option.bind_some]
      rw [List.drop_eq_nil_of_le (by omega), tszs]
      congr 1
      by_cases c2 : x ≤ a
      · rw [if_pos (by omega)]; omega
      · rw [if_neg (by omega), if_neg c2]
theorem size_ref : ∀ (k : Nat) (v : Tm) (a : Int), Tree.depth v ≤ k → 0 ≤ a → a ≤ 1000000000 → ref29_Size.f k v a = some (szTo v a)
  | 0, v, a, h, _, _ => by have := tdepth_pos v; omega
  | k + 1, v, a, h, h0, h1 => by
    have hr : ∀ t ∈ Tree.kids v, ∀ b, 0 ≤ b → b ≤ a → ref29_Size.f k t b = some (szTo t b) := fun t ht b hb0 hb1 => size_ref k t b (by have := tdepth_kid ht; omega) hb0 (by omega)
    show ref29_Size.F (ref29_Size.f k) v a = _
    unfold ref29_Size.F
    rw [show (0 : Int) = ((0 : Nat) : Int) from rfl, size_L0 _ v a h1 hr _ 0 1 (by omega) (by omega) (by omega) (by omega) (by omega), List.drop_zero]
    unfold szTo
    rw [tsz_eq]
    show some _ = some _
    congr 1
    split <;> split <;> (try split) <;> omega
theorem sized (v : Tm) {a : Int} (h0 : 0 ≤ a) (h1 : a ≤ 1000000000) : ref29_Size.f (Tm.fuel v) v a = some (szTo v a) := size_ref _ v a (Nat.le_refl _) h0 h1

/-! #### loops over a list -/
theorem each_loop {B : Type} {xs : List Tm} {L : Nat → Int → Option (Unit ⊕ B)} {step : Tm → Option (Option B)} (hlen : xs.length ≤ 1099511627776)
    (hL : ∀ (k i : Nat) (r : Option B), i < xs.length → step (xs.getD i Tm.dflt) = some r → L (k + 1) (i : Int) = match r with | some b => some (.inr b) | none => L k (IntKind.i64.wrap ((i : Int) + 1)))
    (hend : ∀ k, L (k + 1) (xs.length : Int) = some (.inl ())) (hs : ∀ x ∈ xs, ∃ r, step x = some r) :
    ∀ (k i : Nat), i ≤ xs.length → xs.length - i < k → (L k (i : Int) = some (.inl ()) ∧ ∀ x ∈ xs.drop i, step x = some none) ∨ ∃ b, L k (i : Int) = some (.inr b) ∧ ∃ x ∈ xs.drop i, step x = some (some b)
  | 0, i, _, h => by omega
  | k + 1, i, hi, h => by
    rcases Nat.lt_or_ge i xs.length with c | c
    · obtain ⟨r, hr⟩ := hs _ (tgetD_mem c)
      have e := hL k i r c hr
      rw [tdrop c]
      cases r with
      | some b => exact .inr ⟨b, e, _, List.mem_cons_self, hr⟩
      | none =>
        simp only at e
        rw [wrap_succ (by omega)] at e
        rw [e]
        rcases each_loop hlen hL hend hs k (i + 1) (by omega) (by omega) with ⟨h1, h2⟩ | ⟨b, h1, x, h2, h3⟩
        · refine .inl ⟨h1, fun x hx => ?_⟩
          rcases List.mem_cons.1 hx with rfl | hx
          · exact hr
          · exact h2 x hx
        · exact .inr ⟨b, h1, x, List.mem_cons_of_mem _ h2, h3⟩
    · obtain rfl : i = xs.length := by omega
      refine .inl ⟨hend k, fun x hx => ?_⟩
      rw [List.drop_eq_nil_of_le (Nat.le_refl _)] at hx; cases hx

/-! #### form -/
theorem form_u : ∀ (k : Nat) (v : Tm), Tree.depth v ≤ k → TOk v → (tsz v : Int) ≤ 1000000 → ref29_form.f k v = some (toU k v).isSome
  | 0, v, h, _, _ => by have := tdepth_pos v; omega
  | k + 1, v, h, ho, hz => by
    have hr : ∀ t ∈ Tree.kids v, ref29_form.f k t = some (toU k t).isSome := fun t ht => form_u k t (by have := tdepth_kid ht; omega) (((TOk_iff v).1 ho).2.2 t ht) (by have := tsz_eq v; have := tszs_mem t ht; omega)
    have ho' := (TOk_iff v).1 ho
    have hl : (Tree.kids v).length ≤ 1000000 := by have := tsz_eq v; have := tszs_len (Tree.kids v); omega
    have hloop : ref29_form.L0 (ref29_form.f k) v ((((Tree.kids v).length : Int)).toNat + 1) 0 = some (if (Tree.kids v).all (fun t => (toU k t).isSome) then .inl () else .inr false) := by
      have := each_loop (xs := Tree.kids v) (B := Bool) (L := ref29_form.L0 (ref29_form.f k) v) (step := fun t => if (toU k t).isSome then some none else some (some false)) (by omega) (fun q i r hi hst => ?_) (fun q => ?_) (fun t ht => ?_) ((((Tree.kids v).length : Int)).toNat + 1) 0 (by omega) (by omega)
      · rcases this with ⟨h1, h2⟩ | ⟨b, h1, x, hx, h2⟩
        · rw [show ((0 : Nat) : Int) = 0 from rfl] at h1
          rw [h1, if_pos]
          rw [List.all_eq_true]; intro t ht
          have := h2 t (by rwa [List.drop_zero])
          cases hq : (toU k t).isSome with
          | true => rfl
          | false => rw [hq] at this; simp at this
        · rw [show ((0 : Nat) : Int) = 0 from rfl] at h1
          rw [List.drop_zero] at hx
          cases hq : (toU k x).isSome with
          | true => rw [hq] at h2; simp at h2
          | false =>
            rw [hq] at h2; simp at h2; subst h2
            rw [h1, if_neg]
            intro hall
            rw [List.all_eq_true] at hall
            have := hall x hx; rw [hq] at this; cases this
      · rw [ref29_form.L0]
        have c' : (i : Int) < ((Tree.kids v).length : Int) := by omega
        simp only [c', decide_true, if_true, nm, Int.toNat_natCast]
        rw [reqT (show (0 : Int) ≤ (i : Int) by omega), reqT trivial, hr _ (tgetD_mem hi), Option.bind_some]
        cases hq : (toU k ((Tree.kids v).getD i Tm.dflt)).isSome <;> rw [hq] at hst <;> simp at hst <;> subst hst <;> simp
      · rw [ref29_form.L0]; simp
      · show ∃ r, (if (toU k t).isSome = true then some none else some (some false)) = some r
        split <;> exact ⟨_, rfl⟩
    show ref29_form.F (ref29_form.f k) v = _
    unfold ref29_form.F
    rw [hloop]
    match v, ho', hl with
    | .node (c, n) ks, ho', hl =>
      have hc : i64 c := ho'.1
      have hn : i64 n := ho'.2.1
      have hks : Tree.kids (Tree.node (c, n) ks) = ks := rfl
      have hkd : Tm.kind (Tree.node (c, n) ks) = c := rfl
      have hnm : Tm.num (Tree.node (c, n) ks) = n := rfl
      have hl' : ks.length ≤ 1000000 := hl
      simp only [hks, hkd, hnm]
      by_cases c1 : c < 1
      · have : toU (k + 1) (.node (c, n) ks) = none := by
          match ks with
          | [] => simp only [toU]; split; rw [if_neg (by omega), if_neg (by omega)]; rfl
          | [a] => simp only [toU]; split; rw [if_neg (by omega), if_neg (by omega)]; rfl
          | [a, b] =>
            simp only [toU]; split
            · cases toU k a <;> cases toU k b <;> simp
              rw [if_neg (by omega), if_neg (by omega), if_neg (by omega), if_neg (by omega), if_neg (by omega)]
            · rfl
          | _ :: _ :: _ :: _ => rfl
        rw [this]; simp [c1]
      · by_cases c9 : 9 < c
        · have : toU (k + 1) (.node (c, n) ks) = none := by
            match ks with
            | [] => simp only [toU]; split; rw [if_neg (by omega), if_neg (by omega)]; rfl
            | [a] => simp only [toU]; split; rw [if_neg (by omega), if_neg (by omega)]; rfl
            | [a, b] =>
              simp only [toU]; split
              · cases toU k a <;> cases toU k b <;> simp
                rw [if_neg (by omega), if_neg (by omega), if_neg (by omega), if_neg (by omega), if_neg (by omega)]
              · rfl
            | _ :: _ :: _ :: _ => rfl
          rw [this]; simp [c1, c9]
        · have hcc : c = 1 ∨ c = 2 ∨ c = 3 ∨ c = 4 ∨ c = 5 ∨ c = 6 ∨ c = 7 ∨ c = 8 ∨ c = 9 := by omega
          rcases hcc with rfl | rfl | rfl | rfl | rfl | rfl | rfl | rfl | rfl
          all_goals
            match ks with
            | [] =>
              rcases Int.lt_trichotomy n 0 with n0 | rfl | n0
              · simp [ref29_args.f, req, onw, toU, n0, show ¬ 0 ≤ n by omega]
              · simp [ref29_args.f, req, onw, toU]
              · simp [ref29_args.f, req, onw, toU, n0, show ¬ n < 0 by omega, show 0 ≤ n by omega, hn.2, show n ≠ 0 by omega]
            | [a] =>
              rcases Int.lt_trichotomy n 0 with n0 | rfl | n0
              · simp [ref29_args.f, req, onw, toU, n0, show n ≠ 0 by omega]
              · cases hqa : toU k a <;> simp [ref29_args.f, req, onw, toU, hqa]
              · simp [ref29_args.f, req, onw, toU, n0, show ¬ n < 0 by omega, show n ≠ 0 by omega]
            | [a, b] =>
              rcases Int.lt_trichotomy n 0 with n0 | rfl | n0
              · simp [ref29_args.f, req, onw, toU, n0, show n ≠ 0 by omega]
              · cases hqa : toU k a <;> cases hqb : toU k b <;> simp [ref29_args.f, req, onw, toU, hqa, hqb]
              · simp [ref29_args.f, req, onw, toU, n0, show ¬ n < 0 by omega, show n ≠ 0 by omega]
            | _ :: _ :: _ :: t =>
              simp [ref29_args.f, req, onw, toU, show ¬ ((t.length : Int) + 1 + 1 + 1 = 0) by omega, show ¬ ((t.length : Int) + 1 + 1 + 1 = 1) by omega, show ¬ ((t.length : Int) + 1 + 1 + 1 = 2) by omega]
end Go.Proofs.YtfbogkhgfaibbaaDoor
