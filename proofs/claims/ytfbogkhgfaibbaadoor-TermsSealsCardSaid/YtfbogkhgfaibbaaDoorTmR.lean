import Derived.Test.YtfbogkhgfaibbaaDoorTmY
section
namespace Go.Proofs.YtfbogkhgfaibbaaDoor
open Go Go.HW Go.RowKit
set_option linter.unusedVariables false
set_option linter.unusedSimpArgs false

/-! ### what may be handed in -/
theorem TOk_u : ∀ {u : U}, u.ok → TOk u.tm
  | .d n, h => by
    have h1 := h.1; have h2 := h.2
    rw [TOk_iff]; exact ⟨⟨by show (-9223372036854775808 : Int) ≤ 1; decide, by show (1 : Int) ≤ _; decide⟩, ⟨by show _ ≤ n; omega, by show n ≤ _; omega⟩, fun t ht => by cases ht⟩
  | .s n, h => by
    have h1 := h.1; have h2 := h.2
    rw [TOk_iff]; exact ⟨⟨by show (-9223372036854775808 : Int) ≤ 2; decide, by show (2 : Int) ≤ _; decide⟩, ⟨by show _ ≤ n; omega, by show n ≤ _; omega⟩, fun t ht => by cases ht⟩
  | .un k a, h => by
    have ha := TOk_u (u := a) h
    rw [TOk_iff]
    refine ⟨?_, ⟨by show (-9223372036854775808 : Int) ≤ 0; decide, by show (0 : Int) ≤ _; decide⟩, fun t ht => ?_⟩
    · show i64 k.num; unfold i64; cases k <;> decide
    · rw [show t = a.tm by simpa [U.tm, kids_mk] using ht]; exact ha
  | .bi k a b, h => by
    have ha := TOk_u h.1
    have hb := TOk_u h.2
    rw [TOk_iff]
    refine ⟨?_, ⟨by show (-9223372036854775808 : Int) ≤ 0; decide, by show (0 : Int) ≤ _; decide⟩, fun t ht => ?_⟩
    · show i64 k.num; unfold i64; cases k <;> decide
    · rcases (show t = a.tm ∨ t = b.tm by simpa [U.tm, kids_mk] using ht) with rfl | rfl <;> assumption
abbrev Fit (u : U) : Prop := u.ok ∧ u.size ≤ 2000
theorem mayR_u {u : U} (h : Fit u) : ref29_May.f u.tm = some true := by
  unfold ref29_May.f
  have hz := tsz_u u
  have h2 := h.2
  rw [sized u.tm (by decide) (by decide), Option.bind_some]
  have e : szTo u.tm 2000 = (u.size : Int) := by unfold szTo; rw [hz, if_pos (by omega)]
  rw [e]
  have c : (decide ((u.size : Int) ≤ 2000)) = true := by simp; omega
  rw [tt c, form_u (Tm.fuel _) _ (Nat.le_refl _) (TOk_u h.1) (by omega)]
  rw [toU_of (k := Tm.fuel u.tm) h.1 (Nat.le_refl _)]; rfl
theorem mayR {t : Tm} (h : TOk t) : ∃ b, ref29_May.f t = some b ∧ (b = true → ∃ u, u.tm = t ∧ Fit u) := by
  unfold ref29_May.f
  rw [sized t (by decide) (by decide), Option.bind_some]
  by_cases c : (tsz t : Int) ≤ 2000
  · have e : szTo t 2000 = (tsz t : Int) := by unfold szTo; rw [if_pos c]
    rw [e, tt (by simpa using c), form_u (Tm.fuel _) _ (Nat.le_refl _) h (by omega)]
    refine ⟨_, rfl, fun hb => ?_⟩
    obtain ⟨u, hu⟩ := Option.isSome_iff_exists.1 hb
    obtain ⟨e1, e2⟩ := toU_tm hu
    refine ⟨u, e1, e2, ?_⟩
    have := tsz_u u
    rw [e1] at this; omega
  · have e : szTo t 2000 = 2000 + 1 := by unfold szTo; rw [if_neg c]
    rw [e]
    exact ⟨false, rfl, fun hb => by cases hb⟩
theorem all_map {xs : List Tm} (h : ∀ t ∈ xs, ∃ u, u.tm = t ∧ Fit u) : ∃ us : List U, xs = us.map U.tm ∧ ∀ u ∈ us, Fit u := by
  induction xs with
  | nil => exact ⟨[], rfl, fun u hu => by cases hu⟩
  | cons t xs ih =>
    obtain ⟨us, e, hu⟩ := ih fun t ht => h t (List.mem_cons_of_mem _ ht)
    obtain ⟨u, e2, hu2⟩ := h t List.mem_cons_self
    refine ⟨u :: us, by rw [e, List.map_cons, e2], fun v hv => ?_⟩
    rcases List.mem_cons.1 hv with rfl | hv
    · exact hu2
    · exact hu v hv
theorem all_law {xs : List Tm} (hl : xs.length ≤ 1099511627776) (h : ∀ t ∈ xs, TOk t) : ∃ b, law29_all.f xs = some b ∧ (b = true → ∃ us : List U, xs = us.map U.tm ∧ ∀ u ∈ us, Fit u) := by
  unfold law29_all.f
  have := each_loop (xs := xs) (B := Bool) (L := law29_all.L0 xs) (step := fun t => (ref29_May.f t).bind fun b => if b then some none else some (some false)) hl (fun q i r hi hst => ?_) (fun q => ?_) (fun t ht => ?_) (((xs.length : Int)).toNat + 1) 0 (by omega) (by omega)
  · rcases this with ⟨h1, h2⟩ | ⟨b, h1, x, hx, h2⟩
    · rw [show ((0 : Nat) : Int) = 0 from rfl] at h1
      rw [h1]
      refine ⟨true, rfl, fun _ => all_map fun t ht => ?_⟩
      have h3 := h2 t (by rwa [List.drop_zero])
      obtain ⟨b, e, hb⟩ := mayR (h t ht)
      rw [e, Option.bind_some] at h3
      cases b with
      | true => exact hb rfl
      | false => simp at h3
    · rw [show ((0 : Nat) : Int) = 0 from rfl] at h1
      rw [List.drop_zero] at hx
      obtain ⟨c, e, hb⟩ := mayR (h x hx)
      rw [e, Option.bind_some] at h2
      cases c with
      | true => simp at h2
      | false =>
        simp at h2; subst h2
        rw [h1]; exact ⟨false, rfl, fun hh => by cases hh⟩
  · rw [law29_all.L0]
    have c' : (i : Int) < (xs.length : Int) := by omega
    simp only [c', decide_true, if_true, nm, Int.toNat_natCast]
    rw [reqT (show (0 : Int) ≤ (i : Int) by omega), reqT trivial]
    obtain ⟨b, e, hb⟩ := mayR (h _ (tgetD_mem hi))
    rw [e, Option.bind_some] at hst
    rw [e, Option.bind_some]
    cases b <;> simp at hst <;> subst hst <;> simp
  · rw [law29_all.L0]; simp
  · obtain ⟨b, e, hb⟩ := mayR (h t ht)
    rw [e, Option.bind_some]; cases b <;> exact ⟨_, rfl⟩
theorem much_L0 (xs : List Tm) : ∀ (k i : Nat) (x : Int), 31 - i < k → 0 ≤ x → x ≤ 400 * i → i ≤ 31 → ∃ z, ref29_Much.L0 xs k x (i : Int) = some z
  | 0, i, x, h, _, _, _ => by omega
  | k + 1, i, x, h, h0, h1, h2 => by
    rw [ref29_Much.L0]
    by_cases c : i < xs.length
    · have c' : (i : Int) < (xs.length : Int) := by omega
      by_cases c2 : (i : Int) ≤ 30
      · simp only [c', c2, decide_true, if_true, Option.bind_some, nm, Int.toNat_natCast]
        rw [reqT (show (0 : Int) ≤ (i : Int) by omega), reqT trivial, sized _ (by decide) (by decide), Option.bind_some, wrap_succ (by omega)]
        have hz : 0 ≤ szTo (xs.getD i Tm.dflt) 301 ∧ szTo (xs.getD i Tm.dflt) 301 ≤ 302 := by unfold szTo; split <;> omega
        rw [w64 (by omega) (by omega)]
        exact much_L0 xs k (i + 1) _ (by omega) (by omega) (by omega) (by omega)
      · simp only [c', c2, decide_true, decide_false, if_true, Option.bind_some, Bool.false_eq_true, if_false]
        exact ⟨_, rfl⟩
    · have c' : ¬ (i : Int) < (xs.length : Int) := by omega
      simp only [c', decide_false, Bool.false_eq_true, if_false, Option.bind_some]
      exact ⟨_, rfl⟩
theorem much_law (xs : List Tm) : ∃ b, ref29_Much.f xs = some b ∧ (b = false → xs.length ≤ 30) := by
  obtain ⟨z, hz⟩ := much_L0 xs ((30 : Int).toNat + 2) 0 0 (by decide) (by decide) (by decide) (by decide)
  unfold ref29_Much.f
  rw [show ((0 : Nat) : Int) = 0 from rfl] at hz
  rw [hz, Option.bind_some]
  by_cases c : (30 : Int) < (xs.length : Int)
  · exact ⟨true, by simp [c], fun h => by cases h⟩
  · exact ⟨decide (300 < z), by simp [c], fun _ => by omega⟩

/-! #### the program's May -/
theorem fits_u : ∀ {u : U}, u.ok → ∀ {k : Nat} {b : Int}, u.tm.depth ≤ k → (u.size : Int) ≤ b → b ≤ 100000 → terms_fits.f k u.tm b = some (true, b - u.size) := by
  intro u
  induction u with
  | d n =>
    intro h k b hk hb hb2
    cases k with
    | zero => simp [U.tm, depth_leaf] at hk
    | succ k =>
      simp only [U.size] at hb ⊢
      have h1 := h.1
      show terms_fits.F _ (Tm.mk 1 n []) b = _
      unfold terms_fits.F
      simp only [kind_mk, num_mk, kids_mk]
      rw [w64 (n := b - 1) (by omega) (by omega)]
      have e1 : fmIs 1 = true := by decide
      have e2 : fmArgs 1 = 0 := by decide
      simp [e1, e2, nm, show ¬ b - 1 < 0 by omega, show ¬ n < 0 by omega, terms_fits.L0, kids_mk, onw]
  | s n =>
    intro h k b hk hb hb2
    cases k with
    | zero => simp [U.tm, depth_leaf] at hk
    | succ k =>
      simp only [U.size] at hb ⊢
      have h1 := h.1
      show terms_fits.F _ (Tm.mk 2 n []) b = _
      unfold terms_fits.F
      simp only [kind_mk, num_mk, kids_mk]
      rw [w64 (n := b - 1) (by omega) (by omega)]
      have e1 : fmIs 2 = true := by decide
      have e2 : fmArgs 2 = 0 := by decide
      simp [e1, e2, nm, show ¬ b - 1 < 0 by omega, show ¬ n < 0 by omega, terms_fits.L0, kids_mk, onw]
  | un c a ih =>
    intro h k b hk hb hb2
    cases k with
    | zero => rw [U.tm, depth_un] at hk; omega
    | succ k =>
      rw [U.tm, depth_un] at hk
      simp only [U.size] at hb ⊢
      have ha := ih h (k := k) (b := b - 1) (by omega) (by omega) (by omega)
      show terms_fits.F (terms_fits.f k) (Tm.mk c.num 0 [a.tm]) b = _
      unfold terms_fits.F
      simp only [kind_mk, num_mk, kids_mk]
      rw [w64 (n := b - 1) (by omega) (by omega)]
      have e1 : fmIs c.num = true := by cases c <;> decide
      have e2 : fmArgs c.num = 1 := by cases c <;> decide
      simp [e1, e2, nm, req, show ¬ b - 1 < 0 by omega, terms_fits.L0, kids_mk, onw, ha, wrap1]
      omega
  | bi c a b2 iha ihb =>
    intro h k b hk hb hb2
    cases k with
    | zero => rw [U.tm] at hk; have := depth_bi c.num 0 a.tm b2.tm; omega
    | succ k =>
      rw [U.tm] at hk
      have hd := depth_bi c.num 0 a.tm b2.tm
      simp only [U.size] at hb ⊢
      have ha := iha h.1 (k := k) (b := b - 1) (by omega) (by omega) (by omega)
      have hb' := ihb h.2 (k := k) (b := b - 1 - a.size) (by omega) (by omega) (by omega)
      show terms_fits.F (terms_fits.f k) (Tm.mk c.num 0 [a.tm, b2.tm]) b = _
      unfold terms_fits.F
      simp only [kind_mk, num_mk, kids_mk]
      rw [w64 (n := b - 1) (by omega) (by omega)]
      have e1 : fmIs c.num = true := by cases c <;> decide
      have e2 : fmArgs c.num = 2 := by cases c <;> decide
      simp [e1, e2, nm, req, show ¬ b - 1 < 0 by omega, terms_fits.L0, kids_mk, onw, ha, hb', wrap1, wrap2]
      omega
theorem may_u {u : U} (h : Fit u) : terms_May.f u.tm = some true := by
  have h2 := h.2
  unfold terms_May.f
  show Option.bind (terms_fits.f (Tm.fuel u.tm) u.tm 2000) _ = _
  rw [fits_u (k := Tm.fuel u.tm) h.1 (Nat.le_refl _) (by omega) (by decide)]; rfl
theorem may_all {us : List U} (hl : us.length ≤ 500) (h : ∀ u ∈ us, Fit u) : terms_may.f (us.map U.tm) = some true := by
  have hs : ∀ t ∈ us.map U.tm, terms_may_1.f t = some false := fun t ht => by
    obtain ⟨u, hu, rfl⟩ := List.mem_map.1 ht
    unfold terms_may_1.f; rw [may_u (h u hu)]; rfl
  have := each_loop (xs := us.map U.tm) (B := Int) (L := idx55.L0 (us.map U.tm)) (step := fun t => some none) (by simp; omega) (fun q i r hi hst => ?_) (fun q => ?_) (fun t ht => ⟨_, rfl⟩) ((((us.map U.tm).length : Int)).toNat + 1) 0 (by omega) (by omega)
  · rcases this with ⟨h1, h2⟩ | ⟨b, h1, x, hx, h2⟩
    · unfold terms_may.f cont55.f idx55.f
      rw [show ((0 : Nat) : Int) = 0 from rfl] at h1
      rw [h1, tt (by simp; omega)]; rfl
    · cases h2
  · cases hst
    rw [idx55.L0]
    have c' : (i : Int) < ((us.map U.tm).length : Int) := by omega
    simp only [c', decide_true, if_true, nm, Int.toNat_natCast]
    rw [reqT (show (0 : Int) ≤ (i : Int) by omega), reqT trivial, hs _ (tgetD_mem hi)]
    rfl
  · rw [idx55.L0]; simp

/-! #### Can -/
/-- u can be made out of these. -/
def Known2 (us : List U) (v : U) : Prop := Syn (Der fun x => ∃ y ∈ us, x = y.ordr) v
theorem base_iff {us : List U} : (fun x => x ∈ baseU [] us) = fun x => ∃ y ∈ us, x = U.ordr y := by
  funext x; exact propext (by rw [baseU_mem]; simp)
theorem synB_known {us : List U} {v : U} : synB (learnU us) v = true ↔ Known2 us v := by
  have hl := learnU_ok us
  have e : (fun x => x ∈ learnU us) = Der fun x => ∃ y ∈ us, x = U.ordr y := by
    funext x; exact propext (by rw [hl.1.all hl.2, base_iff])
  rw [synB_iff, e]; rfl
theorem learn_u {us : List U} (hl : us.length ≤ 500) (h : ∀ u ∈ us, Fit u) : terms_learn.f (us.map U.tm) = some (toKM (learnU us)) := by
  unfold terms_learn.f
  rw [if_pos (by simpa using hl), goodL_of h]; rfl
theorem learn_kok {us : List U} (h : ∀ u ∈ us, Fit u) : KOk (learnU us) := (learnU_ok us).1.kok (base_ok h)
theorem Can_u {us : List U} {u : U} (hl : us.length ≤ 500) (h : ∀ u ∈ us, Fit u) (hu : Fit u) : terms_Can.f u.tm (us.map U.tm) = some (synB (learnU us) u.ordr) := by
  have hu2 := hu.2
  unfold terms_Can.f
  rw [may_u hu, Option.bind_some, tt rfl, may_all hl h]
  simp only [Option.bind_some, if_true]
  rw [learn_u hl h, Option.bind_some]
  show Option.bind (Option.bind (terms_order.f (Tm.fuel u.tm) u.tm) _) _ = _
  rw [orderd hu.1 (by omega)]
  simp only [Option.bind_some]
  rw [canM_u (learn_kok h) (ordr_ok hu.1) (by rw [ordr_size]; omega)]; rfl
open Classical in
theorem Can_p {us : List U} {u : U} (hl : us.length ≤ 500) (h : ∀ u ∈ us, Fit u) (hu : Fit u) : terms_Can.f u.tm (us.map U.tm) = some (decide (Known2 us u.ordr)) := by
  rw [Can_u hl h hu]; congr 1
  by_cases c : Known2 us u.ordr
  · rw [synB_known.2 c]; simp [c]
  · cases hq : synB (learnU us) u.ordr with
    | true => exact absurd (synB_known.1 hq) c
    | false => simp [c]
end Go.Proofs.YtfbogkhgfaibbaaDoor
end

section
namespace Go.Proofs.YtfbogkhgfaibbaaDoor
open Go Go.HW Go.RowKit
set_option linter.unusedVariables false
set_option linter.unusedSimpArgs false
theorem known_law : law29_known.f = some true := by kernel_rfl

/-! ### TermsKeeps -/
def bareB (n : Int) : U → Bool
  | .s m => m == n
  | .bi .pair a b => bareB n a || bareB n b
  | .bi .enc _ b => bareB n b
  | .bi .sign _ b => bareB n b
  | _ => false
theorem bare_ordr {n : Int} : ∀ {u : U}, bareB n u.ordr = bareB n u
  | .d _ => rfl
  | .s _ => rfl
  | .un _ _ => rfl
  | .bi k a b => by
    have ha := bare_ordr (n := n) (u := a)
    have hb := bare_ordr (n := n) (u := b)
    rw [ordr_bi]
    split
    · rename_i h; rw [h.1]; rfl
    · cases k <;> simp [bareB, ha, hb]
theorem keeps {us : List U} {n : Int} (h : ∀ u ∈ us, bareB n u = false) : ¬ Known2 us (.s n) := fun hk => by
  have hd : Der (fun x => ∃ y ∈ us, x = y.ordr) (.s n) := hk
  have := hd (fun u => bareB n u = false) (fun u ⟨y, hy, e⟩ => by rw [e, bare_ordr]; exact h y hy) fun u hu p hp => by
    cases u with
    | bi k a b =>
      cases k
      case pair =>
        have hu : (bareB n a || bareB n b) = false := hu
        rw [Bool.or_eq_false_iff] at hu
        rcases hp with rfl | rfl
        · exact hu.1
        · exact hu.2
      case sign => obtain rfl : p = b := hp; exact hu
      case enc => obtain rfl : p = b := hp.2; exact hu
      all_goals exact hp.elim
    | _ => exact hp.elim
  simp [bareB] at this
theorem fit_s {n : Int} (h0 : 0 ≤ n) (h : i64 n) : Fit (.s n) := ⟨⟨h0, h.2⟩, by show (1 : Nat) ≤ 2000; decide⟩
end Go.Proofs.YtfbogkhgfaibbaaDoor
end

section
namespace Go.Proofs.YtfbogkhgfaibbaaDoor
open Go Go.HW Go.RowKit
set_option linter.unusedVariables false
set_option linter.unusedSimpArgs false

/-! ### the reference's Text and Order at terms that fit -/
theorem rtext_u : ∀ {u : U}, u.ok → u.size ≤ 2000000 → ∀ {k : Nat}, u.tm.depth ≤ k → ref29_Text.f k u.tm = some u.txt := by
  intro u
  induction u with
  | d n =>
    intro h hs k hk
    cases k with
    | zero => simp [U.tm, depth_leaf] at hk
    | succ k =>
      have := U.txt_len (u := .d n) h
      have h1 := h.1; have h2 := h.2
      simp only [U.txt, U.size, List.length_cons] at this
      show ref29_Text.F _ (Tm.mk 1 n []) = _
      unfold ref29_Text.F
      simp only [kind_mk, num_mk, kids_mk, ref29_names.f, Option.bind_some]
      refine (reqT (by decide)).trans ?_
      refine (reqT (by decide)).trans ?_
      refine (tt (by simp)).trans ?_
      refine (reqT (by omega)).trans ?_
      refine (reqT h2).trans ?_
      exact reqT (by show 1 + (Lib.itoa n).length ≤ _; omega)
  | s n =>
    intro h hs k hk
    cases k with
    | zero => simp [U.tm, depth_leaf] at hk
    | succ k =>
      have := U.txt_len (u := .s n) h
      have h1 := h.1; have h2 := h.2
      simp only [U.txt, U.size, List.length_cons] at this
      show ref29_Text.F _ (Tm.mk 2 n []) = _
      unfold ref29_Text.F
      simp only [kind_mk, num_mk, kids_mk, ref29_names.f, Option.bind_some]
      refine (reqT (by decide)).trans ?_
      refine (reqT (by decide)).trans ?_
      refine (tt (by simp)).trans ?_
      refine (reqT (by omega)).trans ?_
      refine (reqT h2).trans ?_
      exact reqT (by show 1 + (Lib.itoa n).length ≤ _; omega)
  | un c a ih =>
    intro h hs k hk
    cases k with
    | zero => rw [U.tm, depth_un] at hk; omega
    | succ k =>
      rw [U.tm, depth_un] at hk
      simp only [U.size] at hs
      have ha := ih h (by omega) (k := k) (by omega)
      have hl := U.txt_len (u := a) h
      have hnl : c.name.length ≤ 6 := by cases c <;> decide
      show ref29_Text.F (ref29_Text.f k) (Tm.mk c.num 0 [a.tm]) = _
      unfold ref29_Text.F
      simp only [kind_mk, num_mk, kids_mk, ref29_names.f, Option.bind_some]
      refine (reqT (show 0 ≤ c.num by cases c <;> decide)).trans ?_
      refine (reqT (show c.num < 10 by cases c <;> decide)).trans ?_
      refine (ff (show decide (c.num ≤ 2) = false by cases c <;> decide)).trans ?_
      have e0 : ([([] : List UInt8), [100], [115], [112, 117, 98, 108, 105, 99], [115, 101, 97, 108], [115, 105, 103, 110], [109, 97, 99], [112, 97, 105, 114], [115, 104, 97, 114, 101, 100], [104, 97, 115, 104]] : List (List UInt8)).getD (c.num.toNat) [] = c.name := by cases c <;> rfl
      rw [e0]
      have e1 : ref29_Text.L0 (ref29_Text.f k) (Tm.mk c.num 0 [a.tm]) ((([a.tm].length : Int)).toNat + 1) c.name 0 = some (c.name ++ [40] ++ a.txt) := by
        show ref29_Text.L0 (ref29_Text.f k) (Tm.mk c.num 0 [a.tm]) 2 c.name 0 = _
        simp [ref29_Text.L0, nm, kids_mk, ha, wrap1]
        rw [reqT (by omega), Option.bind_some, reqT (by decide), reqT trivial, reqT (by simp; omega)]; simp
      rw [e1, Option.bind_some, reqT (by simp; omega)]; simp [U.txt]
  | bi c a b iha ihb =>
    intro h hs k hk
    cases k with
    | zero => rw [U.tm] at hk; have := depth_bi c.num 0 a.tm b.tm; omega
    | succ k =>
      rw [U.tm] at hk
      have hd := depth_bi c.num 0 a.tm b.tm
      simp only [U.size] at hs
      have ha := iha h.1 (by omega) (k := k) (by omega)
      have hb := ihb h.2 (by omega) (k := k) (by omega)
      have hl := U.txt_len (u := a) h.1
      have hl2 := U.txt_len (u := b) h.2
      have hnl : c.name.length ≤ 6 := by cases c <;> decide
      show ref29_Text.F (ref29_Text.f k) (Tm.mk c.num 0 [a.tm, b.tm]) = _
      unfold ref29_Text.F
      simp only [kind_mk, num_mk, kids_mk, ref29_names.f, Option.bind_some]
      refine (reqT (show 0 ≤ c.num by cases c <;> decide)).trans ?_
      refine (reqT (show c.num < 10 by cases c <;> decide)).trans ?_
      refine (ff (show decide (c.num ≤ 2) = false by cases c <;> decide)).trans ?_
      have e0 : ([([] : List UInt8), [100], [115], [112, 117, 98, 108, 105, 99], [115, 101, 97, 108], [115, 105, 103, 110], [109, 97, 99], [112, 97, 105, 114], [115, 104, 97, 114, 101, 100], [104, 97, 115, 104]] : List (List UInt8)).getD (c.num.toNat) [] = c.name := by cases c <;> rfl
      rw [e0]
      have e1 : ref29_Text.L0 (ref29_Text.f k) (Tm.mk c.num 0 [a.tm, b.tm]) ((([a.tm, b.tm].length : Int)).toNat + 1) c.name 0 = some (c.name ++ [40] ++ a.txt ++ [44] ++ b.txt) := by
        show ref29_Text.L0 (ref29_Text.f k) (Tm.mk c.num 0 [a.tm, b.tm]) 3 c.name 0 = _
        simp [ref29_Text.L0, nm, kids_mk, ha, hb, wrap1, wrap2]
        rw [reqT (by omega), Option.bind_some, reqT (by decide), reqT trivial, reqT (by simp; omega), reqT (by simp; omega), Option.bind_some, reqT (by decide), reqT trivial, reqT (by simp; omega)]; simp
      rw [e1, Option.bind_some, reqT (by simp; omega)]; simp [U.txt]
theorem rtextd {u : U} (h : u.ok) (hs : u.size ≤ 2000000) : ref29_Text.f (Tm.fuel u.tm) u.tm = some u.txt := rtext_u h hs (Nat.le_refl _)
theorem rorder_u : ∀ {u : U}, u.ok → u.size ≤ 2000000 → ∀ {k : Nat}, u.tm.depth ≤ k → ref29_Order.f k u.tm = some u.ordr.tm := by
  intro u
  induction u with
  | d n =>
    intro h hs k hk
    cases k with
    | zero => simp [U.tm, depth_leaf] at hk
    | succ k => rfl
  | s n =>
    intro h hs k hk
    cases k with
    | zero => simp [U.tm, depth_leaf] at hk
    | succ k => rfl
  | un c a ih =>
    intro h hs k hk
    cases k with
    | zero => rw [U.tm, depth_un] at hk; omega
    | succ k =>
      rw [U.tm, depth_un] at hk
      simp only [U.size] at hs
      have ha := ih h (by omega) (k := k) (by omega)
      show ref29_Order.F (ref29_Order.f k) (Tm.mk c.num 0 [a.tm]) = _
      unfold ref29_Order.F
      have e1 : ref29_Order.L0 (ref29_Order.f k) (Tm.mk c.num 0 [a.tm]) (((([a.tm] : List Tm).length : Int)).toNat + 1) [] 0 = some [a.ordr.tm] := by
        show ref29_Order.L0 (ref29_Order.f k) (Tm.mk c.num 0 [a.tm]) 2 [] 0 = _
        simp [ref29_Order.L0, nm, req, Tm.mk, Tree.kids, ha, wrap1]
      refine (congrArg (fun x => Option.bind x _) e1).trans ?_
      have hc : ¬ (c.num == 8) = true := by cases c <;> decide
      rw [Option.bind_some]
      refine (congrArg (fun x => Option.bind x _) (if_neg hc)).trans ?_
      rfl
  | bi c a b iha ihb =>
    intro h hs k hk
    cases k with
    | zero => rw [U.tm] at hk; have := depth_bi c.num 0 a.tm b.tm; omega
    | succ k =>
      rw [U.tm] at hk
      have hd := depth_bi c.num 0 a.tm b.tm
      simp only [U.size] at hs
      have ha := iha h.1 (by omega) (k := k) (by omega)
      have hb := ihb h.2 (by omega) (k := k) (by omega)
      show ref29_Order.F (ref29_Order.f k) (Tm.mk c.num 0 [a.tm, b.tm]) = _
      unfold ref29_Order.F
      have e1 : ref29_Order.L0 (ref29_Order.f k) (Tm.mk c.num 0 [a.tm, b.tm]) (((([a.tm, b.tm] : List Tm).length : Int)).toNat + 1) [] 0 = some [a.ordr.tm, b.ordr.tm] := by
        show ref29_Order.L0 (ref29_Order.f k) (Tm.mk c.num 0 [a.tm, b.tm]) 3 [] 0 = _
        simp [ref29_Order.L0, nm, req, Tm.mk, Tree.kids, ha, hb, wrap1, wrap2]
      refine (congrArg (fun x => Option.bind x _) e1).trans ?_
      rw [Option.bind_some]
      by_cases hc : c = .shared
      · subst hc
        refine (congrArg (fun x => Option.bind x _) (if_pos (show (K2.shared.num == 8) = true by decide))).trans ?_
        have t1 := rtextd (ordr_ok h.1) (by rw [ordr_size]; omega)
        have t2 := rtextd (ordr_ok h.2) (by rw [ordr_size]; omega)
        simp only [req, nm, List.length_cons, List.length_nil, List.getD_cons_zero, Int.toNat_zero, Option.bind_some, t1]
        rw [if_pos (by decide), if_pos (by decide)]
        have e2 : ([a.ordr.tm, b.ordr.tm] : List Tm).getD ((1 : Int).toNat) Tm.dflt = b.ordr.tm := rfl
        rw [e2, t2]
        simp only [Option.bind_some]
        cases hq : (lessL a.ordr.txt b.ordr.txt || a.ordr.txt == b.ordr.txt) with
        | true =>
          have e3 : (U.bi .shared a b).ordr = .bi .shared a.ordr b.ordr := by rw [ordr_bi, hq]; simp
          rw [e3]
          rfl
        | false =>
          have e3 : (U.bi .shared a b).ordr = .bi .shared b.ordr a.ordr := by rw [ordr_bi, hq]; simp
          rw [e3]
          rfl
      · have hc' : ¬ (c.num == 8) = true := by cases c <;> first | decide | exact absurd rfl hc
        refine (congrArg (fun x => Option.bind x _) (if_neg hc')).trans ?_
        rw [ordr_bi, if_neg (fun hh => hc hh.1)]
        rfl
theorem rorderd {u : U} (h : u.ok) (hs : u.size ≤ 2000000) : ref29_Order.f (Tm.fuel u.tm) u.tm = some u.ordr.tm := rorder_u h hs (Nat.le_refl _)
end Go.Proofs.YtfbogkhgfaibbaaDoor
end
