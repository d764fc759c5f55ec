import Derived.Test.YtfbogkhgfaibbaaDoorTmY
import Derived.Test.YtfbogkhgfaibbaaDoorTmX
import Derived.Test.YtfbogkhgfaibbaaDoorHw26
section
namespace Go.Proofs.YtfbogkhgfaibbaaDoor
open Go Go.HW Go.RowKit
set_option linter.unusedVariables false
set_option linter.unusedSimpArgs false

/-! ### what may be handed in -/
theorem TOk_u : ∀ {u : U}, u.ok → TOk u.tm
  | .d n, h => by
    have h1 := h.1; have h2 := h.2
    rw [TOk_iff]; exact ⟨⟨by show (-9223372036854775808 : Int) ≤ 1; decide, by show (1 : Int) ≤ _; decide⟩, ⟨by show _ ≤ n; omega, by show n ≤ _; omega⟩, fun t ht => by cases ht⟩
  | .s n, h => by
    have h1 := h.1; have h2 := h.2
    rw [TOk_iff]; exact ⟨⟨by show (-9223372036854775808 : Int) ≤ 2; decide, by show (2 : Int) ≤ _; decide⟩, ⟨by show _ ≤ n; omega, by show n ≤ _; omega⟩, fun t ht => by cases ht⟩
  | .un k a, h => by
    have ha := TOk_u (u := a) h
    rw [TOk_iff]
    refine ⟨?_, ⟨by show (-9223372036854775808 : Int) ≤ 0; decide, by show (0 : Int) ≤ _; decide⟩, fun t ht => ?_⟩
    · show i64 k.num; unfold i64; cases k <;> decide
    · rw [show t = a.tm by simpa [U.tm, kids_mk] using ht]; exact ha
  | .bi k a b, h => by
    have ha := TOk_u h.1
    have hb := TOk_u h.2
    rw [TOk_iff]
    refine ⟨?_, ⟨by show (-9223372036854775808 : Int) ≤ 0; decide, by show (0 : Int) ≤ _; decide⟩, fun t ht => ?_⟩
    · show i64 k.num; unfold i64; cases k <;> decide
    · rcases (show t = a.tm ∨ t = b.tm by simpa [U.tm, kids_mk] using ht) with rfl | rfl <;> assumption
abbrev Fit (u : U) : Prop := u.ok ∧ u.size ≤ 2000
theorem mayR_u {u : U} (h : Fit u) : ref29_May.f u.tm = some true := by
  unfold ref29_May.f
  have hz := tsz_u u
  have h2 := h.2
  rw [sized u.tm (by decide) (by decide), Option.bind_some]
  have e : szTo u.tm 2000 = (u.size : Int) := by unfold szTo; rw [hz, if_pos (by omega)]
  rw [e]
  have c : (decide ((u.size : Int) ≤ 2000)) = true := by simp; omega
  rw [tt c, form_u (Tm.fuel _) _ (Nat.le_refl _) (TOk_u h.1) (by omega)]
  rw [toU_of (k := Tm.fuel u.tm) h.1 (Nat.le_refl _)]; rfl
theorem mayR {t : Tm} (h : TOk t) : ∃ b, ref29_May.f t = some b ∧ (b = true → ∃ u, u.tm = t ∧ Fit u) := by
  unfold ref29_May.f
  rw [sized t (by decide) (by decide), Option.bind_some]
  by_cases c : (tsz t : Int) ≤ 2000
  · have e : szTo t 2000 = (tsz t : Int) := by unfold szTo; rw [if_pos c]
    rw [e, tt (by simpa using c), form_u (Tm.fuel _) _ (Nat.le_refl _) h (by omega)]
    refine ⟨_, rfl, fun hb => ?_⟩
    obtain ⟨u, hu⟩ := Option.isSome_iff_exists.1 hb
    obtain ⟨e1, e2⟩ := toU_tm hu
    refine ⟨u, e1, e2, ?_⟩
    have := tsz_u u
    rw [e1] at this; omega
  · have e : szTo t 2000 = 2000 + 1 := by unfold szTo; rw [if_neg c]
    rw [e]
    exact ⟨false, rfl, fun hb => by cases hb⟩
theorem all_map {xs : List Tm} (h : ∀ t ∈ xs, ∃ u, u.tm = t ∧ Fit u) : ∃ us : List U, xs = us.map U.tm ∧ ∀ u ∈ us, Fit u := by
  induction xs with
  | nil => exact ⟨[], rfl, fun u hu => by cases hu⟩
  | cons t xs ih =>
    obtain ⟨us, e, hu⟩ := ih fun t ht => h t (List.mem_cons_of_mem _ ht)
    obtain ⟨u, e2, hu2⟩ := h t List.mem_cons_self
    refine ⟨u :: us, by rw [e, List.map_cons, e2], fun v hv => ?_⟩
    rcases List.mem_cons.1 hv with rfl | hv
    · exact hu2
    · exact hu v hv
theorem all_law {xs : List Tm} (hl : xs.length ≤ 1099511627776) (h : ∀ t ∈ xs, TOk t) : ∃ b, law29_all.f xs = some b ∧ (b = true → ∃ us : List U, xs = us.map U.tm ∧ ∀ u ∈ us, Fit u) := by
  unfold law29_all.f
  have := each_loop (xs := xs) (B := Bool) (L := law29_all.L0 xs) (step := fun t => (ref29_May.f t).bind fun b => if b then some none else some (some false)) hl (fun q i r hi hst => ?_) (fun q => ?_) (fun t ht => ?_) (((xs.length : Int)).toNat + 1) 0 (by omega) (by omega)
  · rcases this with ⟨h1, h2⟩ | ⟨b, h1, x, hx, h2⟩
    · rw [show ((0 : Nat) : Int) = 0 from rfl] at h1
      rw [h1]
      refine ⟨true, rfl, fun _ => all_map fun t ht => ?_⟩
      have h3 := h2 t (by rwa [List.drop_zero])
      obtain ⟨b, e, hb⟩ := mayR (h t ht)
      rw [e, Option.bind_some] at h3
      cases b with
      | true => exact hb rfl
      | false => simp at h3
    · rw [show ((0 : Nat) : Int) = 0 from rfl] at h1
      rw [List.drop_zero] at hx
      obtain ⟨c, e, hb⟩ := mayR (h x hx)
      rw [e, Option.bind_some] at h2
      cases c with
      | true => simp at h2
      | false =>
        simp at h2; subst h2
        rw [h1]; exact ⟨false, rfl, fun hh => by cases hh⟩
  · rw [law29_all.L0]
    have c' : (i : Int) < (xs.length : Int) := by omega
    simp only [c', decide_true, if_true, nm, Int.toNat_natCast]
    rw [reqT (show (0 : Int) ≤ (i : Int) by omega), reqT trivial]
    obtain ⟨b, e, hb⟩ := mayR (h _ (tgetD_mem hi))
    rw [e, Option.bind_some] at hst
    rw [e, Option.bind_some]
    cases b <;> simp at hst <;> subst hst <;> simp
  · rw [law29_all.L0]; simp
  · obtain ⟨b, e, hb⟩ := mayR (h t ht)
    rw [e, Option.bind_some]; cases b <;> exact ⟨_, rfl⟩
theorem much_L0 (xs : List Tm) : ∀ (k i : Nat) (x : Int), 31 - i < k → 0 ≤ x → x ≤ 400 * i → i ≤ 31 → ∃ z, ref29_Much.L0 xs k x (i : Int) = some z
  | 0, i, x, h, _, _, _ => by omega
  | k + 1, i, x, h, h0, h1, h2 => by
    rw [ref29_Much.L0]
    by_cases c : i < xs.length
    · have c' : (i : Int) < (xs.length : Int) := by omega
      by_cases c2 : (i : Int) ≤ 30
      · simp only [c', c2, decide_true, if_true, Option.bind_some, nm, Int.toNat_natCast]
        rw [reqT (show (0 : Int) ≤ (i : Int) by omega), reqT trivial, sized _ (by decide) (by decide), Option.bind_some, wrap_succ (by omega)]
        have hz : 0 ≤ szTo (xs.getD i Tm.dflt) 301 ∧ szTo (xs.getD i Tm.dflt) 301 ≤ 302 := by unfold szTo; split <;> omega
        rw [w64 (by omega) (by omega)]
        exact much_L0 xs k (i + 1) _ (by omega) (by omega) (by omega) (by omega)
      · simp only [c', c2, decide_true, decide_false, if_true, Option.bind_some, Bool.false_eq_true, if_false]
        exact ⟨_, rfl⟩
    · have c' : ¬ (i : Int) < (xs.length : Int) := by omega
      simp only [c', decide_false, Bool.false_eq_true, if_false, Option.bind_some]
      exact ⟨_, rfl⟩
theorem much_law (xs : List Tm) : ∃ b, ref29_Much.f xs = some b ∧ (b = false → xs.length ≤ 30) := by
  obtain ⟨z, hz⟩ := much_L0 xs ((30 : Int).toNat + 2) 0 0 (by decide) (by decide) (by decide) (by decide)
  unfold ref29_Much.f
  rw [show ((0 : Nat) : Int) = 0 from rfl] at hz
  rw [hz, Option.bind_some]
  by_cases c : (30 : Int) < (xs.length : Int)
  · exact ⟨true, by simp [c], fun h => by cases h⟩
  · exact ⟨decide (300 < z), by simp [c], fun _ => by omega⟩

/-! #### the program's May -/
theorem fits_u : ∀ {u : U}, u.ok → ∀ {k : Nat} {b : Int}, u.tm.depth ≤ k → (u.size : Int) ≤ b → b ≤ 100000 → terms_fits.f k u.tm b = some (true, b - u.size) := by
  intro u
  induction u with
  | d n =>
    intro h k b hk hb hb2
    cases k with
    | zero => simp [U.tm, depth_leaf] at hk
    | succ k =>
      simp only [U.size] at hb ⊢
      have h1 := h.1
      show terms_fits.F _ (Tm.mk 1 n []) b = _
      unfold terms_fits.F
      simp only [kind_mk, num_mk, kids_mk]
      rw [w64 (n := b - 1) (by omega) (by omega)]
      have e1 : fmIs 1 = true := by decide
      have e2 : fmArgs 1 = 0 := by decide
      simp [e1, e2, nm, show ¬ b - 1 < 0 by omega, show ¬ n < 0 by omega, terms_fits.L0, kids_mk, onw]
  | s n =>
    intro h k b hk hb hb2
    cases k with
    | zero => simp [U.tm, depth_leaf] at hk
    | succ k =>
      simp only [U.size] at hb ⊢
      have h1 := h.1
      show terms_fits.F _ (Tm.mk 2 n []) b = _
      unfold terms_fits.F
      simp only [kind_mk, num_mk, kids_mk]
      rw [w64 (n := b - 1) (by omega) (by omega)]
      have e1 : fmIs 2 = true := by decide
      have e2 : fmArgs 2 = 0 := by decide
      simp [e1, e2, nm, show ¬ b - 1 < 0 by omega, show ¬ n < 0 by omega, terms_fits.L0, kids_mk, onw]
  | un c a ih =>
    intro h k b hk hb hb2
    cases k with
    | zero => rw [U.tm, depth_un] at hk; omega
    | succ k =>
      rw [U.tm, depth_un] at hk
      simp only [U.size] at hb ⊢
      have ha := ih h (k := k) (b := b - 1) (by omega) (by omega) (by omega)
      show terms_fits.F (terms_fits.f k) (Tm.mk c.num 0 [a.tm]) b = _
      unfold terms_fits.F
      simp only [kind_mk, num_mk, kids_mk]
      rw [w64 (n := b - 1) (by omega) (by omega)]
      have e1 : fmIs c.num = true := by cases c <;> decide
      have e2 : fmArgs c.num = 1 := by cases c <;> decide
      simp [e1, e2, nm, req, show ¬ b - 1 < 0 by omega, terms_fits.L0, kids_mk, onw, ha, wrap1]
      omega
  | bi c a b2 iha ihb =>
    intro h k b hk hb hb2
    cases k with
    | zero => rw [U.tm] at hk; have := depth_bi c.num 0 a.tm b2.tm; omega
    | succ k =>
      rw [U.tm] at hk
      have hd := depth_bi c.num 0 a.tm b2.tm
      simp only [U.size] at hb ⊢
      have ha := iha h.1 (k := k) (b := b - 1) (by omega) (by omega) (by omega)
      have hb' := ihb h.2 (k := k) (b := b - 1 - a.size) (by omega) (by omega) (by omega)
      show terms_fits.F (terms_fits.f k) (Tm.mk c.num 0 [a.tm, b2.tm]) b = _
      unfold terms_fits.F
      simp only [kind_mk, num_mk, kids_mk]
      rw [w64 (n := b - 1) (by omega) (by omega)]
      have e1 : fmIs c.num = true := by cases c <;> decide
      have e2 : fmArgs c.num = 2 := by cases c <;> decide
      simp [e1, e2, nm, req, show ¬ b - 1 < 0 by omega, terms_fits.L0, kids_mk, onw, ha, hb', wrap1, wrap2]
      omega
theorem may_u {u : U} (h : Fit u) : terms_May.f u.tm = some true := by
  have h2 := h.2
  unfold terms_May.f
  show Option.bind (terms_fits.f (Tm.fuel u.tm) u.tm 2000) _ = _
  rw [fits_u (k := Tm.fuel u.tm) h.1 (Nat.le_refl _) (by omega) (by decide)]; rfl
theorem may_all {us : List U} (hl : us.length ≤ 500) (h : ∀ u ∈ us, Fit u) : terms_may.f (us.map U.tm) = some true := by
  have hs : ∀ t ∈ us.map U.tm, terms_may_1.f t = some false := fun t ht => by
    obtain ⟨u, hu, rfl⟩ := List.mem_map.1 ht
    unfold terms_may_1.f; rw [may_u (h u hu)]; rfl
  have := each_loop (xs := us.map U.tm) (B := Int) (L := idx55.L0 (us.map U.tm)) (step := fun t => some none) (by simp; omega) (fun q i r hi hst => ?_) (fun q => ?_) (fun t ht => ⟨_, rfl⟩) ((((us.map U.tm).length : Int)).toNat + 1) 0 (by omega) (by omega)
  · rcases this with ⟨h1, h2⟩ | ⟨b, h1, x, hx, h2⟩
    · unfold terms_may.f cont55.f idx55.f
      rw [show ((0 : Nat) : Int) = 0 from rfl] at h1
      rw [h1, tt (by simp; omega)]; rfl
    · cases h2
  · cases hst
    rw [idx55.L0]
    have c' : (i : Int) < ((us.map U.tm).length : Int) := by omega
    simp only [c', decide_true, if_true, nm, Int.toNat_natCast]
    rw [reqT (show (0 : Int) ≤ (i : Int) by omega), reqT trivial, hs _ (tgetD_mem hi)]
    rfl
  · rw [idx55.L0]; simp

/-! #### Can -/
/-- u can be made out of these. -/
def Known2 (us : List U) (v : U) : Prop := Syn (Der fun x => ∃ y ∈ us, x = y.ordr) v
theorem base_iff {us : List U} : (fun x => x ∈ baseU [] us) = fun x => ∃ y ∈ us, x = U.ordr y := by
  funext x; exact propext (by rw [baseU_mem]; simp)
theorem learn_u {us : List U} (hl : us.length ≤ 500) (h : ∀ u ∈ us, Fit u) : terms_learn.f (us.map U.tm) = some (toKM (learnU us)) := by
  unfold terms_learn.f
  rw [if_pos (by simpa using hl), goodL_of h]; rfl
theorem learn_kok {us : List U} (h : ∀ u ∈ us, Fit u) : KOk (learnU us) := (learnU_ok us).1.kok (base_ok h)
theorem Can_u {us : List U} {u : U} (hl : us.length ≤ 500) (h : ∀ u ∈ us, Fit u) (hu : Fit u) : terms_Can.f u.tm (us.map U.tm) = some (synB (learnU us) u.ordr) := by
  have hu2 := hu.2
  unfold terms_Can.f
  rw [may_u hu, Option.bind_some, tt rfl, may_all hl h]
  simp only [Option.bind_some, if_true]
  rw [learn_u hl h, Option.bind_some]
  show Option.bind (Option.bind (terms_order.f (Tm.fuel u.tm) u.tm) _) _ = _
  rw [orderd hu.1 (by omega)]
  simp only [Option.bind_some]
  rw [canM_u (learn_kok h) (ordr_ok hu.1) (by rw [ordr_size]; omega)]; rfl
end Go.Proofs.YtfbogkhgfaibbaaDoor
end

section
namespace Go.Proofs.YtfbogkhgfaibbaaDoor
open Go Go.HW Go.RowKit
set_option linter.unusedVariables false
set_option linter.unusedSimpArgs false

theorem fmIs_range {c : Int} (h : fmIs c = true) : c = 1 ∨ c = 2 ∨ c = 3 ∨ c = 4 ∨ c = 5 ∨ c = 6 ∨ c = 7 ∨ c = 8 ∨ c = 9 := by
  unfold fmIs at h
  simp only [fmT, fmFind] at h
  by_cases h1 : c = 1
  · exact .inl h1
  by_cases h2 : c = 2
  · exact .inr (.inl h2)
  by_cases h3 : c = 3
  · simp [h3]
  by_cases h4 : c = 4
  · simp [h4]
  by_cases h5 : c = 5
  · simp [h5]
  by_cases h6 : c = 6
  · simp [h6]
  by_cases h7 : c = 7
  · simp [h7]
  by_cases h8 : c = 8
  · simp [h8]
  by_cases h9 : c = 9
  · simp [h9]
  simp [h1, h2, h3, h4, h5, h6, h7, h8, h9] at h
def FitsR (k : Nat) (v : Tm) (b : Int) : Prop := ∃ q r, terms_fits.f k v b = some (q, r) ∧ -1 ≤ r ∧ r ≤ b ∧ (q = true → 0 ≤ r ∧ ∃ u, toU k v = some u ∧ r = b - u.size)
theorem fits_any : ∀ (k : Nat) (v : Tm) (b : Int), Tree.depth v ≤ k → TOk v → 0 ≤ b → b ≤ 100000 → FitsR k v b
  | 0, v, b, h, _, _, _ => by have := tdepth_pos v; omega
  | k + 1, v, b, h, ho, h0, h1 => by
    have hr : ∀ t ∈ Tree.kids v, ∀ b, 0 ≤ b → b ≤ 100000 → FitsR k t b := fun t ht b hb0 hb1 => fits_any k t b (by have := tdepth_kid ht; omega) (((TOk_iff v).1 ho).2.2 t ht) hb0 hb1
    have ho' := (TOk_iff v).1 ho
    unfold FitsR
    show ∃ q r, terms_fits.F (terms_fits.f k) v b = some (q, r) ∧ _
    match v, ho', hr with
    | .node (c, n) ks, ho', hr =>
      have hn : i64 n := ho'.2.1
      have hkd : Tm.kind (Tree.node (c, n) ks) = c := rfl
      have hnm : Tm.num (Tree.node (c, n) ks) = n := rfl
      have hks : Tree.kids (Tree.node (c, n) ks) = ks := rfl
      unfold terms_fits.F
      simp only [hkd, hnm, hks]
      rw [w64 (n := b - 1) (by omega) (by omega)]
      cases hc : fmIs c with
      | false => exact ⟨false, b - 1, by simp, by omega, by omega, fun h => by cases h⟩
      | true =>
        by_cases hb : b - 1 < 0
        · exact ⟨false, b - 1, by simp [hb], by omega, by omega, fun h => by cases h⟩
        · by_cases hl : (ks.length : Int) = fmArgs c
          · by_cases n0 : n < 0
            · exact ⟨false, b - 1, by simp [hb, hl, nm, n0], by omega, by omega, fun h => by cases h⟩
            · by_cases n1 : n ≠ 0 ∧ 0 < fmArgs c
              · exact ⟨false, b - 1, by simp [hb, hl, nm, n0, n1.1, n1.2], by omega, by omega, fun h => by cases h⟩
              · have e : ∀ x : Option (Bool × Int), ((if (!true) = true then some true else some (decide (b - 1 < 0))).bind fun q4 => (if q4 = true then some true else nm ((ks.length : Int) != fmArgs c) fun t19 => some t19).bind fun q12 => (if q12 = true then some true else some (decide (n < 0))).bind fun q23 => (if q23 = true then some true else (if (n != 0) = true then some (decide (0 < fmArgs c)) else some false).bind fun q39 => some q39).bind fun q31 => if q31 = true then some (false, b - 1) else x) = x := fun x => by
                  by_cases n2 : n = 0
                  · simp [hb, hl, nm, n0, n2]
                  · have : ¬ 0 < fmArgs c := fun h => n1 ⟨n2, h⟩
                    simp [hb, hl, nm, n0, n2, this]
                rw [e]
                have hn' : 0 ≤ n ∧ n ≤ 9223372036854775807 := ⟨by omega, hn.2⟩
                match ks, hl, hr with
                | [], hl, hr =>
                  have hL : terms_fits.L0 (terms_fits.f k) (Tree.node (c, n) []) ((((([] : List Tm).length : Int))).toNat + 1) (b - 1) 0 = some (.inl (b - 1)) := by
                    show terms_fits.L0 (terms_fits.f k) (Tree.node (c, n) []) 1 (b - 1) 0 = _
                    simp [terms_fits.L0, nm, Tree.kids]
                  rw [hL]
                  rcases fmIs_range hc with rfl | rfl | rfl | rfl | rfl | rfl | rfl | rfl | rfl
                  · exact ⟨true, b - 1, rfl, by omega, by omega, fun _ => ⟨by omega, .d n, by simp [toU, hn'], by simp [U.size]⟩⟩
                  · exact ⟨true, b - 1, rfl, by omega, by omega, fun _ => ⟨by omega, .s n, by simp [toU, hn'], by simp [U.size]⟩⟩
                  all_goals exact absurd hl (by show ¬ (0 : Int) = _; decide)
                | [a], hl, hr =>
                  obtain ⟨qa, ra, ea, a1, a2, a3⟩ := hr a (by simp [Tree.kids]) (b - 1) (by omega) (by omega)
                  have hL : terms_fits.L0 (terms_fits.f k) (Tree.node (c, n) [a]) ((((([a] : List Tm).length : Int))).toNat + 1) (b - 1) 0 = some (if qa then .inl ra else .inr (false, ra)) := by
                    show terms_fits.L0 (terms_fits.f k) (Tree.node (c, n) [a]) 2 (b - 1) 0 = _
                    cases qa <;> simp [terms_fits.L0, nm, req, Tree.kids, ea, wrap1]
                  rw [hL]
                  cases qa with
                  | false => exact ⟨false, ra, rfl, a1, by omega, fun h => by cases h⟩
                  | true =>
                    obtain ⟨a4, u, a5, a6⟩ := a3 rfl
                    have hn0 : n = 0 := Classical.byContradiction fun h => n1 ⟨h, by rw [← hl]; simp⟩
                    subst hn0
                    rcases fmIs_range hc with rfl | rfl | rfl | rfl | rfl | rfl | rfl | rfl | rfl
                    case inr.inr.inl => exact ⟨true, ra, rfl, a1, by omega, fun _ => ⟨a4, .un .pub u, by simp [toU, a5], by simp [U.size]; omega⟩⟩
                    case inr.inr.inr.inr.inr.inr.inr.inr => exact ⟨true, ra, rfl, a1, by omega, fun _ => ⟨a4, .un .hash u, by simp [toU, a5], by simp [U.size]; omega⟩⟩
                    all_goals exact absurd hl (by show ¬ (1 : Int) = _; decide)
                | [a, a'], hl, hr =>
                  obtain ⟨qa, ra, ea, a1, a2, a3⟩ := hr a (by simp [Tree.kids]) (b - 1) (by omega) (by omega)
                  cases qa with
                  | false =>
                    have hL : terms_fits.L0 (terms_fits.f k) (Tree.node (c, n) [a, a']) ((((([a, a'] : List Tm).length : Int))).toNat + 1) (b - 1) 0 = some (.inr (false, ra)) := by
                      show terms_fits.L0 (terms_fits.f k) (Tree.node (c, n) [a, a']) 3 (b - 1) 0 = _
                      simp [terms_fits.L0, nm, req, Tree.kids, ea, wrap1]
                    rw [hL]
                    exact ⟨false, ra, rfl, a1, by omega, fun h => by cases h⟩
                  | true =>
                    obtain ⟨a4, u, a5, a6⟩ := a3 rfl
                    obtain ⟨qb, rb, eb, b1, b2, b3⟩ := hr a' (by simp [Tree.kids]) ra a4 (by omega)
                    have hL : terms_fits.L0 (terms_fits.f k) (Tree.node (c, n) [a, a']) ((((([a, a'] : List Tm).length : Int))).toNat + 1) (b - 1) 0 = some (if qb then .inl rb else .inr (false, rb)) := by
                      show terms_fits.L0 (terms_fits.f k) (Tree.node (c, n) [a, a']) 3 (b - 1) 0 = _
                      cases qb <;> simp [terms_fits.L0, nm, req, Tree.kids, ea, eb, wrap1, wrap2]
                    rw [hL]
                    cases qb with
                    | false => exact ⟨false, rb, rfl, b1, by omega, fun h => by cases h⟩
                    | true =>
                      obtain ⟨b4, u2, b5, b6⟩ := b3 rfl
                      have hn0 : n = 0 := Classical.byContradiction fun h => n1 ⟨h, by rw [← hl]; simp⟩
                      subst hn0
                      rcases fmIs_range hc with rfl | rfl | rfl | rfl | rfl | rfl | rfl | rfl | rfl
                      case inr.inr.inr.inl => exact ⟨true, rb, rfl, b1, by omega, fun _ => ⟨b4, .bi .enc u u2, by simp [toU, a5, b5], by simp [U.size]; omega⟩⟩
                      case inr.inr.inr.inr.inl => exact ⟨true, rb, rfl, b1, by omega, fun _ => ⟨b4, .bi .sign u u2, by simp [toU, a5, b5], by simp [U.size]; omega⟩⟩
                      case inr.inr.inr.inr.inr.inl => exact ⟨true, rb, rfl, b1, by omega, fun _ => ⟨b4, .bi .mac u u2, by simp [toU, a5, b5], by simp [U.size]; omega⟩⟩
                      case inr.inr.inr.inr.inr.inr.inl => exact ⟨true, rb, rfl, b1, by omega, fun _ => ⟨b4, .bi .pair u u2, by simp [toU, a5, b5], by simp [U.size]; omega⟩⟩
                      case inr.inr.inr.inr.inr.inr.inr.inl => exact ⟨true, rb, rfl, b1, by omega, fun _ => ⟨b4, .bi .shared u u2, by simp [toU, a5, b5], by simp [U.size]; omega⟩⟩
                      all_goals exact absurd hl (by show ¬ (2 : Int) = _; decide)
                | a :: a' :: a'' :: r, hl, hr =>
                  exfalso
                  have : fmArgs c ≤ 2 := by rcases fmIs_range hc with rfl | rfl | rfl | rfl | rfl | rfl | rfl | rfl | rfl <;> decide
                  simp at hl; omega
          · exact ⟨false, b - 1, by simp [hb, hl, nm], by omega, by omega, fun h => by cases h⟩
/-- The program's May, at any term. -/
theorem may_any {t : Tm} (h : TOk t) : ∃ b, terms_May.f t = some b ∧ (b = true → ∃ u, u.tm = t ∧ Fit u) := by
  obtain ⟨q, r, e, h1, h2, h3⟩ := fits_any (Tm.fuel t) t 2000 (Nat.le_refl _) h (by decide) (by decide)
  refine ⟨q, ?_, fun hq => ?_⟩
  · unfold terms_May.f
    show Option.bind (terms_fits.f (Tm.fuel t) t 2000) _ = _
    rw [e]; rfl
  · obtain ⟨h4, u, h5, h6⟩ := h3 hq
    obtain ⟨e1, e2⟩ := toU_tm h5
    exact ⟨u, e1, e2, by omega⟩
end Go.Proofs.YtfbogkhgfaibbaaDoor
end

section
namespace Go.Proofs.YtfbogkhgfaibbaaDoor
open Go Go.HW Go.RowKit
set_option linter.unusedVariables false
set_option linter.unusedSimpArgs false
theorem known_law : law29_known.f = some true := by kernel_rfl

/-! ### TermsKeeps -/
def bareB (n : Int) : U → Bool
  | .s m => m == n
  | .bi .pair a b => bareB n a || bareB n b
  | .bi .enc _ b => bareB n b
  | .bi .sign _ b => bareB n b
  | _ => false
theorem bare_ordr {n : Int} : ∀ {u : U}, bareB n u.ordr = bareB n u
  | .d _ => rfl
  | .s _ => rfl
  | .un _ _ => rfl
  | .bi k a b => by
    have ha := bare_ordr (n := n) (u := a)
    have hb := bare_ordr (n := n) (u := b)
    rw [ordr_bi]
    split
    · rename_i h; rw [h.1]; rfl
    · cases k <;> simp [bareB, ha, hb]
theorem keeps {us : List U} {n : Int} (h : ∀ u ∈ us, bareB n u = false) : ¬ Known2 us (.s n) := fun hk => by
  have hd : Der (fun x => ∃ y ∈ us, x = y.ordr) (.s n) := hk
  have := hd (fun u => bareB n u = false) (fun u ⟨y, hy, e⟩ => by rw [e, bare_ordr]; exact h y hy) fun u hu p hp => by
    cases u with
    | bi k a b =>
      cases k
      case pair =>
        have hu : (bareB n a || bareB n b) = false := hu
        rw [Bool.or_eq_false_iff] at hu
        rcases hp with rfl | rfl
        · exact hu.1
        · exact hu.2
      case sign => obtain rfl : p = b := hp; exact hu
      case enc => obtain rfl : p = b := hp.2; exact hu
      all_goals exact hp.elim
    | _ => exact hp.elim
  simp [bareB] at this
end Go.Proofs.YtfbogkhgfaibbaaDoor
end

section
namespace Go.Proofs.YtfbogkhgfaibbaaDoor
open Go Go.HW Go.RowKit
set_option linter.unusedVariables false
set_option linter.unusedSimpArgs false

theorem all_u {us : List U} (hl : us.length ≤ 1099511627776) (h : ∀ u ∈ us, Fit u) : law29_all.f (us.map U.tm) = some true := by
  have hs : ∀ t ∈ us.map U.tm, ref29_May.f t = some true := fun t ht => by
    obtain ⟨u, hu, rfl⟩ := List.mem_map.1 ht
    exact mayR_u (h u hu)
  unfold law29_all.f
  have := each_loop (xs := us.map U.tm) (B := Bool) (L := law29_all.L0 (us.map U.tm)) (step := fun t => some none) (by simpa using hl) (fun q i r hi hst => ?_) (fun q => ?_) (fun t ht => ⟨_, rfl⟩) ((((us.map U.tm).length : Int)).toNat + 1) 0 (by omega) (by omega)
  · rcases this with ⟨h1, h2⟩ | ⟨b, h1, x, hx, h2⟩
    · rw [show ((0 : Nat) : Int) = 0 from rfl] at h1
      rw [h1]; rfl
    · cases h2
  · cases hst
    rw [law29_all.L0]
    have c' : (i : Int) < ((us.map U.tm).length : Int) := by omega
    simp only [c', decide_true, if_true, nm, Int.toNat_natCast]
    rw [reqT (show (0 : Int) ≤ (i : Int) by omega), reqT trivial, hs _ (tgetD_mem hi)]
    rfl
  · rw [law29_all.L0]; simp
theorem idx55_any {xs : List Tm} (hl : xs.length ≤ 1000000) (hm : ∀ t ∈ xs, ∃ b, terms_may_1.f t = some b) : ∀ (k i : Nat), xs.length - i < k → i ≤ xs.length → (idx55.L0 xs k (i : Int) = some (.inl ()) ∧ ∀ t ∈ xs.drop i, terms_may_1.f t = some false) ∨ ∃ j : Nat, idx55.L0 xs k (i : Int) = some (.inr (j : Int))
  | 0, i, h, _ => by omega
  | k + 1, i, h, hi => by
    rw [idx55.L0]
    by_cases c : i < xs.length
    · have c' : (i : Int) < (xs.length : Int) := by omega
      obtain ⟨b, hb⟩ := hm _ (tgetD_mem c)
      simp only [c', decide_true, if_true, nm, Int.toNat_natCast]
      rw [reqT (show (0 : Int) ≤ (i : Int) by omega), reqT trivial, hb, Option.bind_some]
      cases b with
      | true => exact .inr ⟨i, by simp⟩
      | false =>
        simp only [Bool.false_eq_true, if_false]
        rw [wrap_succ (by omega)]
        rcases idx55_any hl hm k (i + 1) (by omega) (by omega) with ⟨h1, h2⟩ | h1
        · refine .inl ⟨h1, fun t ht => ?_⟩
          rw [tdrop c] at ht
          rcases List.mem_cons.1 ht with rfl | ht
          · exact hb
          · exact h2 t ht
        · exact .inr h1
    · have c' : ¬ (i : Int) < (xs.length : Int) := by omega
      simp only [c', decide_false, Bool.false_eq_true, if_false]
      refine .inl ⟨trivial, fun t ht => ?_⟩
      rw [List.drop_eq_nil_of_le (by omega)] at ht; cases ht
theorem may_list {xs : List Tm} (hl : xs.length ≤ 500) (h : ∀ t ∈ xs, TOk t) : ∃ b, terms_may.f xs = some b ∧ (b = true → ∃ us : List U, xs = us.map U.tm ∧ ∀ u ∈ us, Fit u) := by
  have hm : ∀ t ∈ xs, ∃ b, terms_may_1.f t = some (!b) ∧ (b = true → ∃ u, u.tm = t ∧ Fit u) := fun t ht => by
    obtain ⟨b, e, hb⟩ := may_any (h t ht)
    exact ⟨b, by unfold terms_may_1.f; rw [e]; rfl, hb⟩
  have h1 := idx55_any (xs := xs) (by omega) (fun t ht => by obtain ⟨b, e, _⟩ := hm t ht; exact ⟨_, e⟩) (((xs.length : Int)).toNat + 1) 0 (by omega) (Nat.zero_le _)
  rw [show ((0 : Nat) : Int) = 0 from rfl] at h1
  unfold terms_may.f cont55.f idx55.f
  rw [tt (show decide ((xs.length : Int) ≤ 500) = true by simp; omega)]
  rcases h1 with ⟨h1, h2⟩ | ⟨j, h1⟩
  · rw [h1]
    refine ⟨true, rfl, fun _ => all_map fun t ht => ?_⟩
    obtain ⟨b, e, hb⟩ := hm t ht
    have := h2 t (by rwa [List.drop_zero])
    rw [e] at this
    cases b with
    | true => exact hb rfl
    | false => simp at this
  · rw [h1]
    refine ⟨false, ?_, fun h => by cases h⟩
    simp [onw]
end Go.Proofs.YtfbogkhgfaibbaaDoor
end

section
namespace Go.Proofs.YtfbogkhgfaibbaaDoor
open Go Go.HW Go.RowKit
set_option linter.unusedVariables false
set_option linter.unusedSimpArgs false

/-! ### the reference's Text and Order at terms that fit -/
theorem less_tri : ∀ (a b : List UInt8), lessL a b = true ∨ a = b ∨ lessL b a = true
  | [], [] => .inr (.inl rfl)
  | [], _ :: _ => .inl rfl
  | _ :: _, [] => .inr (.inr rfl)
  | x :: a, y :: b => by
    have ih := less_tri a b
    unfold lessL at ih ⊢
    simp only [Op.bytesLess, Bool.or_eq_true, Bool.and_eq_true, decide_eq_true_eq, beq_iff_eq, List.cons.injEq]
    rcases Nat.lt_trichotomy x.toNat y.toNat with h | h | h
    · exact .inl (.inl (UInt8.lt_iff_toNat_lt.2 h))
    · have e : x = y := UInt8.toNat_inj.1 h
      subst e
      rcases ih with h | h | h
      · exact .inl (.inr ⟨rfl, h⟩)
      · exact .inr (.inl ⟨rfl, h⟩)
      · exact .inr (.inr (.inr ⟨rfl, h⟩))
    · exact .inr (.inr (.inl (UInt8.lt_iff_toNat_lt.2 h)))
theorem swap_false {a b : List UInt8} (h : (lessL a b || a == b) = false) : (lessL b a || b == a) = true := by
  rw [Bool.or_eq_false_iff] at h
  rcases less_tri a b with h1 | h1 | h1
  · rw [h.1] at h1; cases h1
  · have := h.2; rw [h1] at this; simp at this
  · rw [h1]; rfl
theorem ordr_idem : ∀ (u : U), u.ordr.ordr = u.ordr
  | .d _ => rfl
  | .s _ => rfl
  | .un k a => by simp only [U.ordr, ordr_idem a]
  | .bi k a b => by
    have ha := ordr_idem a
    have hb := ordr_idem b
    by_cases c : k = .shared ∧ (lessL a.ordr.txt b.ordr.txt || a.ordr.txt == b.ordr.txt) = false
    · rw [ordr_bi k a b, if_pos c, ordr_bi, ha, hb, if_neg (fun h => by rw [swap_false c.2] at h; exact absurd h.2 (by simp))]
    · rw [ordr_bi k a b, if_neg c, ordr_bi, ha, hb, if_neg c]
theorem rtext_u : ∀ {u : U}, u.ok → u.size ≤ 2000000 → ∀ {k : Nat}, u.tm.depth ≤ k → ref29_Text.f k u.tm = some u.txt := by
  intro u
  induction u with
  | d n =>
    intro h hs k hk
    cases k with
    | zero => simp [U.tm, depth_leaf] at hk
    | succ k =>
      have := U.txt_len (u := .d n) h
      have h1 := h.1; have h2 := h.2
      simp only [U.txt, U.size, List.length_cons] at this
      show ref29_Text.F _ (Tm.mk 1 n []) = _
      unfold ref29_Text.F
      simp only [kind_mk, num_mk, kids_mk, ref29_names.f, Option.bind_some]
      refine (reqT (by decide)).trans ?_
      refine (reqT (by decide)).trans ?_
      refine (tt (by simp)).trans ?_
      refine (reqT (by omega)).trans ?_
      refine (reqT h2).trans ?_
      exact reqT (by show 1 + (Lib.itoa n).length ≤ _; omega)
  | s n =>
    intro h hs k hk
    cases k with
    | zero => simp [U.tm, depth_leaf] at hk
    | succ k =>
      have := U.txt_len (u := .s n) h
      have h1 := h.1; have h2 := h.2
      simp only [U.txt, U.size, List.length_cons] at this
      show ref29_Text.F _ (Tm.mk 2 n []) = _
      unfold ref29_Text.F
      simp only [kind_mk, num_mk, kids_mk, ref29_names.f, Option.bind_some]
      refine (reqT (by decide)).trans ?_
      refine (reqT (by decide)).trans ?_
      refine (tt (by simp)).trans ?_
      refine (reqT (by omega)).trans ?_
      refine (reqT h2).trans ?_
      exact reqT (by show 1 + (Lib.itoa n).length ≤ _; omega)
  | un c a ih =>
    intro h hs k hk
    cases k with
    | zero => rw [U.tm, depth_un] at hk; omega
    | succ k =>
      rw [U.tm, depth_un] at hk
      simp only [U.size] at hs
      have ha := ih h (by omega) (k := k) (by omega)
      have hl := U.txt_len (u := a) h
      have hnl : c.name.length ≤ 6 := by cases c <;> decide
      show ref29_Text.F (ref29_Text.f k) (Tm.mk c.num 0 [a.tm]) = _
      unfold ref29_Text.F
      simp only [kind_mk, num_mk, kids_mk, ref29_names.f, Option.bind_some]
      refine (reqT (show 0 ≤ c.num by cases c <;> decide)).trans ?_
      refine (reqT (show c.num < 10 by cases c <;> decide)).trans ?_
      refine (ff (show decide (c.num ≤ 2) = false by cases c <;> decide)).trans ?_
      have e0 : ([([] : List UInt8), [100], [115], [112, 117, 98, 108, 105, 99], [115, 101, 97, 108], [115, 105, 103, 110], [109, 97, 99], [112, 97, 105, 114], [115, 104, 97, 114, 101, 100], [104, 97, 115, 104]] : List (List UInt8)).getD (c.num.toNat) [] = c.name := by cases c <;> rfl
      rw [e0]
      have e1 : ref29_Text.L0 (ref29_Text.f k) (Tm.mk c.num 0 [a.tm]) ((([a.tm].length : Int)).toNat + 1) c.name 0 = some (c.name ++ [40] ++ a.txt) := by
        show ref29_Text.L0 (ref29_Text.f k) (Tm.mk c.num 0 [a.tm]) 2 c.name 0 = _
        simp [ref29_Text.L0, nm, kids_mk, ha, wrap1]
        rw [reqT (by omega), Option.bind_some, reqT (by decide), reqT trivial, reqT (by simp; omega)]; simp
      rw [e1, Option.bind_some, reqT (by simp; omega)]; simp [U.txt]
  | bi c a b iha ihb =>
    intro h hs k hk
    cases k with
    | zero => rw [U.tm] at hk; have := depth_bi c.num 0 a.tm b.tm; omega
    | succ k =>
      rw [U.tm] at hk
      have hd := depth_bi c.num 0 a.tm b.tm
      simp only [U.size] at hs
      have ha := iha h.1 (by omega) (k := k) (by omega)
      have hb := ihb h.2 (by omega) (k := k) (by omega)
      have hl := U.txt_len (u := a) h.1
      have hl2 := U.txt_len (u := b) h.2
      have hnl : c.name.length ≤ 6 := by cases c <;> decide
      show ref29_Text.F (ref29_Text.f k) (Tm.mk c.num 0 [a.tm, b.tm]) = _
      unfold ref29_Text.F
      simp only [kind_mk, num_mk, kids_mk, ref29_names.f, Option.bind_some]
      refine (reqT (show 0 ≤ c.num by cases c <;> decide)).trans ?_
      refine (reqT (show c.num < 10 by cases c <;> decide)).trans ?_
      refine (ff (show decide (c.num ≤ 2) = false by cases c <;> decide)).trans ?_
      have e0 : ([([] : List UInt8), [100], [115], [112, 117, 98, 108, 105, 99], [115, 101, 97, 108], [115, 105, 103, 110], [109, 97, 99], [112, 97, 105, 114], [115, 104, 97, 114, 101, 100], [104, 97, 115, 104]] : List (List UInt8)).getD (c.num.toNat) [] = c.name := by cases c <;> rfl
      rw [e0]
      have e1 : ref29_Text.L0 (ref29_Text.f k) (Tm.mk c.num 0 [a.tm, b.tm]) ((([a.tm, b.tm].length : Int)).toNat + 1) c.name 0 = some (c.name ++ [40] ++ a.txt ++ [44] ++ b.txt) := by
        show ref29_Text.L0 (ref29_Text.f k) (Tm.mk c.num 0 [a.tm, b.tm]) 3 c.name 0 = _
        simp [ref29_Text.L0, nm, kids_mk, ha, hb, wrap1, wrap2]
        rw [reqT (by omega), Option.bind_some, reqT (by decide), reqT trivial, reqT (by simp; omega), reqT (by simp; omega), Option.bind_some, reqT (by decide), reqT trivial, reqT (by simp; omega)]; simp
      rw [e1, Option.bind_some, reqT (by simp; omega)]; simp [U.txt]
theorem rtextd {u : U} (h : u.ok) (hs : u.size ≤ 2000000) : ref29_Text.f (Tm.fuel u.tm) u.tm = some u.txt := rtext_u h hs (Nat.le_refl _)
theorem rorder_u : ∀ {u : U}, u.ok → u.size ≤ 2000000 → ∀ {k : Nat}, u.tm.depth ≤ k → ref29_Order.f k u.tm = some u.ordr.tm := by
  intro u
  induction u with
  | d n =>
    intro h hs k hk
    cases k with
    | zero => simp [U.tm, depth_leaf] at hk
    | succ k => rfl
  | s n =>
    intro h hs k hk
    cases k with
    | zero => simp [U.tm, depth_leaf] at hk
    | succ k => rfl
  | un c a ih =>
    intro h hs k hk
    cases k with
    | zero => rw [U.tm, depth_un] at hk; omega
    | succ k =>
      rw [U.tm, depth_un] at hk
      simp only [U.size] at hs
      have ha := ih h (by omega) (k := k) (by omega)
      show ref29_Order.F (ref29_Order.f k) (Tm.mk c.num 0 [a.tm]) = _
      unfold ref29_Order.F
      have e1 : ref29_Order.L0 (ref29_Order.f k) (Tm.mk c.num 0 [a.tm]) (((([a.tm] : List Tm).length : Int)).toNat + 1) [] 0 = some [a.ordr.tm] := by
        show ref29_Order.L0 (ref29_Order.f k) (Tm.mk c.num 0 [a.tm]) 2 [] 0 = _
        simp [ref29_Order.L0, nm, req, Tm.mk, Tree.kids, ha, wrap1]
      refine (congrArg (fun x => Option.bind x _) e1).trans ?_
      have hc : ¬ (c.num == 8) = true := by cases c <;> decide
      rw [Option.bind_some]
      refine (congrArg (fun x => Option.bind x _) (if_neg hc)).trans ?_
      rfl
  | bi c a b iha ihb =>
    intro h hs k hk
    cases k with
    | zero => rw [U.tm] at hk; have := depth_bi c.num 0 a.tm b.tm; omega
    | succ k =>
      rw [U.tm] at hk
      have hd := depth_bi c.num 0 a.tm b.tm
      simp only [U.size] at hs
      have ha := iha h.1 (by omega) (k := k) (by omega)
      have hb := ihb h.2 (by omega) (k := k) (by omega)
      show ref29_Order.F (ref29_Order.f k) (Tm.mk c.num 0 [a.tm, b.tm]) = _
      unfold ref29_Order.F
      have e1 : ref29_Order.L0 (ref29_Order.f k) (Tm.mk c.num 0 [a.tm, b.tm]) (((([a.tm, b.tm] : List Tm).length : Int)).toNat + 1) [] 0 = some [a.ordr.tm, b.ordr.tm] := by
        show ref29_Order.L0 (ref29_Order.f k) (Tm.mk c.num 0 [a.tm, b.tm]) 3 [] 0 = _
        simp [ref29_Order.L0, nm, req, Tm.mk, Tree.kids, ha, hb, wrap1, wrap2]
      refine (congrArg (fun x => Option.bind x _) e1).trans ?_
      rw [Option.bind_some]
      by_cases hc : c = .shared
      · subst hc
        refine (congrArg (fun x => Option.bind x _) (if_pos (show (K2.shared.num == 8) = true by decide))).trans ?_
        have t1 := rtextd (ordr_ok h.1) (by rw [ordr_size]; omega)
        have t2 := rtextd (ordr_ok h.2) (by rw [ordr_size]; omega)
        simp only [req, nm, List.length_cons, List.length_nil, List.getD_cons_zero, Int.toNat_zero, Option.bind_some, t1]
        rw [if_pos (by decide), if_pos (by decide)]
        have e2 : ([a.ordr.tm, b.ordr.tm] : List Tm).getD ((1 : Int).toNat) Tm.dflt = b.ordr.tm := rfl
        rw [e2, t2]
        simp only [Option.bind_some]
        cases hq : (lessL a.ordr.txt b.ordr.txt || a.ordr.txt == b.ordr.txt) with
        | true =>
          have e3 : (U.bi .shared a b).ordr = .bi .shared a.ordr b.ordr := by rw [ordr_bi, hq]; simp
          rw [e3]
          rfl
        | false =>
          have e3 : (U.bi .shared a b).ordr = .bi .shared b.ordr a.ordr := by rw [ordr_bi, hq]; simp
          rw [e3]
          rfl
      · have hc' : ¬ (c.num == 8) = true := by cases c <;> first | decide | exact absurd rfl hc
        refine (congrArg (fun x => Option.bind x _) (if_neg hc')).trans ?_
        rw [ordr_bi, if_neg (fun hh => hc hh.1)]
        rfl
theorem rorderd {u : U} (h : u.ok) (hs : u.size ≤ 2000000) : ref29_Order.f (Tm.fuel u.tm) u.tm = some u.ordr.tm := rorder_u h hs (Nat.le_refl _)
theorem fit_ordr {u : U} (h : Fit u) : Fit u.ordr := ⟨ordr_ok h.1, by rw [ordr_size]; exact h.2⟩
end Go.Proofs.YtfbogkhgfaibbaaDoor
end

section
namespace Go.Proofs.YtfbogkhgfaibbaaDoor
open Go Go.HW Go.RowKit
set_option linter.unusedVariables false
set_option linter.unusedSimpArgs false

/-! ### maps.Keys, slices.Sorted, of what is known -/
noncomputable def B67 : Code := bodyOf Tryd.f67
set_option maxRecDepth 20000 in
theorem keys1 {σ : Type} {M I I' : Mem} {l bm Bm : Nat} {lst : List (List UInt8 × Value)} {K : KM} (hK : KRep ShTm M lst K) (hbox : I Bm = some (.cells #[.map (some bm)] 56 (0, 0))) (hmap : I bm = some (kobj lst)) (E : σ → Heap) (step : σ → List UInt8 → σ → Prop) {s0 : σ}
    (hY : ∀ s x pre, pre.length < K.length → Steps step s0 pre s → RoundTurn Tryd.prog l I (str x) (E s) (fun t => step s x t) (fun _ => true) E)
    (hI : Ext I I') {w0 : World} {A : Heap} {w : World} (hc : Cls w0 I' (E s0 ++ A) w) :
    Calls Tryd.prog 67 #[.func (.yield l) #[] #[], ptr Bm 0] w fun e w' => ∃ s' : σ, (∃ xs, xs.Perm (K.map Prod.fst) ∧ Steps step s0 xs s') ∧ e = .returned (.tuple #[]) ∧ Cls w0 I' (E s' ++ A) w' := by
  let R : Ending → World → Prop := fun e w' => ∃ s' : σ, (∃ xs, xs.Perm (K.map Prod.fst) ∧ Steps step s0 xs s') ∧ e = .returned (.tuple #[]) ∧ Cls w0 I' (E s' ++ A) w'
  have hlen : (lst.map fun p => (str p.1, p.2)).length = K.length := by rw [List.length_map]; exact hK.len
  have hM : ∀ {H : Heap} (w : World), Cls w0 I' H w → w.heap[bm]? = some (gobj (lst.map fun p => (str p.1, p.2))) := fun w hc => by rw [← kobj_gobj]; exact hc.imm bm _ (hI _ _ hmap)
  have main : ∀ (m : Nat) (seen : Array Nat) (s : σ) (r : Nat), K.length - seen.size = m → seen.toList.Nodup → (∀ i ∈ seen, i < K.length) → Steps step s0 (seen.toList.map fun i => (K.getD i ([], Tm.dflt)).1) s →
      TT Tryd.prog 67 R 14 w0 I' [.code (sub [1, 0, 0] B67), .inLoop (sub [1, 0, 0] B67), .inBlock 0] [(0, .func (.yield l) #[] #[]), (5, ptr r 0)] ((some r, iobj bm (lst.map fun p => (str p.1, p.2)).length seen) :: (E s ++ A)) := by
    intro m
    induction m using Nat.strongRecOn with
    | _ m ih =>
      intro seen s r hm hn hlt hs
      refine TT.seq (x := sub [1, 0, 0, 0] B67) (y := sub [1, 0, 0, 1] B67) ?_
      refine TT.region (id := 1) (n := 2) (ops := opsOf (sub [1, 0, 0, 0] B67)) [(.actx, none), (.pure, none)] rfl ?_
      show DL _ _ _ _ _ _ _ _ _ _ [0, 1] _ _
      refine DL.actx (i := 0) rfl (Wn.none rfl) rfl rfl rfl (f_nextG (j := 0) (l := lst.map fun p => (str p.1, p.2)) (seen := seen) (r := r) (bm := bm) rfl hM rfl rfl) ?_
      rintro ⟨_ | i, hx⟩
      · refine DL.pu 7 (.bool false) rfl (p_extract (vs := #[.bool false]) rfl rfl rfl) ?_
        refine DL.nil ?_
        refine TT.seq (x := sub [1, 0, 0, 1, 0] B67) (y := sub [1, 0, 0, 1, 1] B67) ?_
        refine TT.cond_false (x := sub [1, 0, 0, 1, 0, 0] B67) (y := sub [1, 0, 0, 1, 0, 1] B67) rfl rfl ?_
        refine TT.exit rfl ?_
        refine endR (rs := []) (vs := []) (v := .tuple #[]) Tryd.func67 rfl rfl rfl res_nil fun w' hc' => ?_
        refine ⟨s, ⟨_, ?_, hs⟩, rfl, (show Cls w0 I' ((some r, iobj bm (lst.map fun p => (str p.1, p.2)).length seen) :: (E s ++ A)) w' from hc').tail⟩
        have hp := (seen_all hn hlt (fun i hi => hx i (by rw [hlen]; exact hi))).map fun i => (K.getD i ([], Tm.dflt)).1
        refine hp.trans (List.Perm.of_eq ?_)
        apply List.ext_getElem?
        intro j
        rw [List.getElem?_map, List.getElem?_map]
        by_cases hj : j < K.length
        · simp [hj]
        · simp [hj]
      · obtain ⟨hi, hns⟩ := hx
        have hi' : i < lst.length := by rwa [List.length_map] at hi
        have hiK : i < K.length := by rwa [hlen] at hi
        obtain ⟨k, hk, hat⟩ := krep_at hK hi'
        obtain ⟨x, hxe⟩ : ∃ x, x = (K.getD i ([], Tm.dflt)).1 := ⟨_, rfl⟩
        obtain ⟨va, hva⟩ : ∃ va : Value, va = .agg #[.int .i64 (Tm.kind (K.getD i ([], Tm.dflt)).2), .int .i64 (Tm.num (K.getD i ([], Tm.dflt)).2), k] := ⟨_, rfl⟩
        rw [← hxe, ← hva] at hat
        have hv : nextGV (lst.map fun p => (str p.1, p.2)) (seen := seen) ⟨some i, hi, hns⟩ = .tuple #[.bool true, str x, va] := by
          unfold nextGV; simp only [hat]
        rw [hv]
        show DL _ _ _ _ _ _ _ _ _ _ [1] _ ((some r, iobj bm (lst.map fun p => (str p.1, p.2)).length (seen.push i)) :: (E s ++ A))
        refine DL.pu 7 (.bool true) rfl (p_extract rfl rfl rfl) ?_
        refine DL.nil ?_
        refine TT.seq (x := sub [1, 0, 0, 1, 0] B67) (y := sub [1, 0, 0, 1, 1] B67) ?_
        refine TT.cond_true (x := sub [1, 0, 0, 1, 0, 0] B67) (y := sub [1, 0, 0, 1, 0, 1] B67) rfl rfl ?_
        refine TT.skip ?_
        refine TT.block (c := sub [1, 0, 0, 1, 1, 0] B67) ?_
        refine TT.seq (x := sub [1, 0, 0, 1, 1, 0, 0] B67) (y := sub [1, 0, 0, 1, 1, 0, 1] B67) ?_
        refine TT.region (id := 2) (n := 3) (ops := opsOf (sub [1, 0, 0, 1, 1, 0, 0] B67)) [(.quiet, none), (.pure, none), (.pure, none)] rfl ?_
        show DL _ _ _ _ _ _ _ _ _ _ [0, 1, 2] _ _
        refine DL.qu 8 (.tuple #[str x, va]) rfl (f_entryG (j := 0) (l := lst.map fun p => (str p.1, p.2)) (seen := seen) (i := i) rfl hM hat rfl rfl) ?_
        refine DL.pu 9 (str x) rfl (p_extract rfl rfl rfl) ?_
        refine DL.pu 3 (str x) rfl (p_assign rfl rfl) ?_
        refine DL.nil ?_
        refine TT.seq (x := sub [1, 0, 0, 1, 1, 0, 1, 0] B67) (y := sub [1, 0, 0, 1, 1, 0, 1, 1] B67) ?_
        have hn2 : (seen.push i).toList.Nodup := by
          rw [Array.toList_push, List.nodup_append]
          exact ⟨hn, by simp, fun a ha b hb e => by simp only [List.mem_singleton] at hb; subst hb; subst e; exact hns (by simpa using ha)⟩
        have hlt2 : ∀ j ∈ seen.push i, j < K.length := fun j hj => by
          rcases Array.mem_push.1 hj with h | h
          · exact hlt j h
          · rw [h]; exact hiK
        have hpl : (seen.toList.map fun i => (K.getD i ([], Tm.dflt)).1).length < K.length := by
          have := seen_size hn2 (n := K.length) hlt2
          simp only [Array.size_push] at this
          simp; omega
        refine TT.ofCI ?_
        refine CI.rgY (id := 3) [0, 1] [2, 3] [(.pure, none), (.pure, none), (.actx, none), (.pure, none)] rfl rfl (by kernel_rfl) ?_
        refine DL.pu 10 (.func (.yield l) #[] #[]) rfl (p_move rfl rfl) ?_
        refine DL.pu 11 (str x) rfl (p_move rfl rfl) ?_
        refine DK.nil ?_
        refine wpOp_yield (σ := σ) (A := (some r, iobj bm (lst.map fun p => (str p.1, p.2)).length (seen.push i)) :: A) rfl rfl rfl rfl rfl rfl rfl (args_val (vs := [str x]) rfl) (hY s x _ hpl hs) hI List.perm_middle.symm ?_
        intro t ht
        refine wpOps_of_DK (lab := labOf [(.pure, none), (.pure, none), (.pure, none), (.pure, none)]) (ids := fun _ => none) (by kernel_rfl) ?_
        refine DL.pu 13 (.bool false) rfl (show FPure _ _ _ (.bool (!true)) from p_not rfl rfl) ?_
        refine DK.nil fun a' w' ha' hc' => ⟨rfl, ?_⟩
        rw [wd_nil ha']
        refine (show TT Tryd.prog 67 R 14 w0 I' _ _ _ from ?_) a' w' ha' hc'
        refine TT.cond_false (x := sub [1, 0, 0, 1, 1, 0, 1, 1, 0] B67) (y := sub [1, 0, 0, 1, 1, 0, 1, 1, 1] B67) rfl rfl ?_
        refine TT.skip ?_
        refine TT.inBlock ?_
        refine TT.inLoop ?_
        refine TT.weak (TT.perm (H' := (some r, iobj bm (lst.map fun p => (str p.1, p.2)).length (seen.push i)) :: (E t ++ A)) List.perm_middle (ih (K.length - (seen.push i).size) ?_ (seen.push i) t r rfl hn2 hlt2 ?_)) (Sub.cons rfl (Sub.cons rfl (Sub.nil _)))
        · simp only [Array.size_push]
          simp at hpl; omega
        · rw [Array.toList_push, List.map_append, List.map_singleton, ← hxe]
          exact hs.snoc ht
  refine calls_of_TTG (N := 14) (S := [(0, .func (.yield l) #[] #[]), (1, ptr Bm 0)]) (b := B67) hc Tryd.func67 rfl rfl rfl (by simp) ?_
  show TT _ _ R _ _ _ [.code (sub [] B67)] _ _
  refine TT.seq (x := sub [0] B67) (y := sub [1] B67) ?_
  refine TT.region (id := 0) (n := 2) (ops := opsOf (sub [0] B67)) [(.pure, none), (.keep, none)] rfl ?_
  show DL _ _ _ _ _ _ _ _ _ _ [0, 1] _ _
  refine DL.imm (v := .map (some bm)) rfl (Wn.none rfl) rfl rfl rfl (i_loadBox (hI _ _ hbox) rfl ty_a56 rfl rfl) ?_
  refine DL.rangeG (l := lst.map fun p => (str p.1, p.2)) (bm := bm) ty_u56 hM rfl (Wn.none rfl) rfl rfl rfl rfl rfl ?_
  intro r
  refine DL.nil ?_
  refine TT.block (c := sub [1, 0] B67) ?_
  refine TT.loop (c := sub [1, 0, 0] B67) ?_
  exact TT.weak (main _ #[] s0 r rfl (by simp) (by simp) rfl) (Sub.cons rfl (Sub.cons rfl (Sub.nil _)))
end Go.Proofs.YtfbogkhgfaibbaaDoor
end

section
namespace Go.Proofs.YtfbogkhgfaibbaaDoor
open Go Go.HW Go.RowKit
set_option linter.unusedVariables false
set_option linter.unusedSimpArgs false

noncomputable def B77 : Code := bodyOf Tryd.f77
noncomputable def B65 : Code := bodyOf Tryd.f65
noncomputable def B43 : Code := bodyOf Tryd.f43
abbrev StK (M : Mem) : Type := {x : List (List UInt8) × Value × Array Value // OwnS Sh.str M x.2.1 x.2.2 x.1}
abbrev EK {M : Mem} (rec : Loop) (l Bs : Nat) (s : StK M) : Heap := [(some l, .loop rec), (some Bs, .cells #[s.1.2.1] 64 (0, 0)), (Value.ownBlock s.1.2.1, .cells s.1.2.2 9 (0, 0))]
abbrev stepK {M : Mem} (s : StK M) (x : List UInt8) (t : StK M) : Prop := t.1.1 = s.1.1 ++ [x]
theorem StK.steps {M : Mem} : ∀ {xs : List (List UInt8)} {s s' : StK M}, Steps stepK s xs s' → s'.1.1 = s.1.1 ++ xs
  | [], s, s', h => by rw [show s' = s from h]; simp
  | x :: xs, s, s', ⟨t, h1, h2⟩ => by rw [StK.steps h2, h1]; simp
theorem ty_s64 (w : World) : (sizeOf 64).run Tryd.prog w = .ok 1 w := by kernel_rfl
theorem ty_a64 (w : World) : (isAgg 64).run Tryd.prog w = .ok false w := by kernel_rfl
set_option maxRecDepth 20000 in
theorem appRoundK {M I : Mem} {rec : Loop} {l Bs : Nat} {x : List UInt8} (hst : rec.state = .ready) (hpe : rec.pending = none) (hps : rec.params = #[7]) (has : rec.assign = sub [1, 0, 1, 0, 0] B77) (hbo : rec.body = sub [1, 0, 1, 0, 1] B77)
    (hag : Agree 13 [(2, ptr Bs 0)] { tmps := rec.tmps, defers := [] }) (s : StK M) (hlen : s.1.1.length < 1099511627776) :
    RoundTurn Tryd.prog l I (str x) (EK rec l Bs s) (fun t => stepK s x t) (fun _ => true) (EK rec l Bs) := fun w0 I' A w hI hc => by
  refine round_of_CI (N := 13) (S := [(7, str x), (2, ptr Bs 0)]) (w0 := w0) (I := I') (p := 7) hps (hc.own l _ List.mem_cons_self) (hag.put (by decide) _) hc ?_
  rw [has, hbo]
  refine CI.rg (id := 2) [0] [(.pure, none)] rfl rfl (by kernel_rfl) ?_
  refine DL.pu 5 (str x) rfl (p_assign rfl rfl) ?_
  refine DK.nil (begin_body (j := 0) rfl hst ?_)
  refine CI.block (c := sub [1, 0, 1, 0, 1, 0] B77) ?_
  show CI _ _ _ _ _ _ _ _ _ ((some l, .loop { rec with state := .busy }) :: (some Bs, .cells #[s.1.2.1] 64 (0, 0)) :: (Value.ownBlock s.1.2.1, .cells s.1.2.2 9 (0, 0)) :: A)
  refine CI.rg (id := 3) [0, 1, 2, 3, 4] [(.quiet, none), (.pure, none), (.alloc, none), (.actx, none), (.store, none)] rfl rfl (by kernel_rfl) ?_
  refine DL.qu 8 s.1.2.1 rfl (f_load (j := 1) ty_a64 rfl rfl rfl rfl) ?_
  refine DL.pu 9 (str x) rfl (p_move rfl rfl) ?_
  refine DL.newS (M := M) (s := Sh.str) (zs := [x]) (cells := [str x]) (n := 1) rfl (by decide) rfl (fun i y hy => by match i, hy with | 0, hy => cases hy; rfl | k + 1, hy => simp at hy) (i := 2) rfl (Wn.none rfl) rfl rfl rfl (f_buildS (n := 1) (vs := [(0, str x)]) elem64 rfl rfl (by kernel_rfl) rfl (args_val2 rfl)) ?_
  intro s3_v s3_c ho_s3
  have g4 : s.1.1.length + ([x] : List (List UInt8)).length ≤ 1099511627776 := hlen
  refine DL.appendS (M := M) (s := Sh.str) (fun s6_v s6_c => (Value.ownBlock s3_v, .cells s3_c 9 (0, 0)) :: (some l, .loop { rec with state := .busy }) :: (some Bs, .cells #[s.1.2.1] 64 (0, 0)) :: (Value.ownBlock s6_v, .cells s6_c 9 (0, 0)) :: A) elem64 (j := 3) rfl s.2 g4 (by decide) (OwnS.src (i := 0) ho_s3 rfl) (i := 3) rfl (Wn.none rfl) rfl rfl rfl rfl rfl rfl (fun _ _ => rfl) ?_
  intro s6_v s6_c ho_s6
  refine DL.put (H' := (Value.ownBlock s3_v, .cells s3_c 9 (0, 0)) :: (some l, .loop { rec with state := .busy }) :: (some Bs, .cells #[s6_v] 64 (0, 0)) :: (Value.ownBlock s6_v, .cells s6_c 9 (0, 0)) :: A) (i := 4) rfl (Wn.none rfl) rfl rfl (f_store (c := #[s.1.2.1]) (v := s6_v) (off := 0) (j := 2) ty_s64 rfl (sl_cells (OwnS.sl ho_s6)) (of_decide_eq_true rfl) (sl_one (OwnS.sl ho_s6)) rfl rfl rfl) (keep_none rfl) ?_
  refine DK.nil fun a' w' ha' hc' => ?_
  refine inBlock_normal ?_
  refine end_round (j := 1) rfl (fun w'' hc'' => ?_) (wd [] a') w' hc'
  refine ⟨⟨(s.1.1 ++ [x], s6_v, s6_c), ho_s6⟩, rfl, rfl, ?_⟩
  have hrec : ({ ({ rec with state := .busy } : Loop) with state := .ready, pending := none } : Loop) = rec := by
    cases rec; simp only at hst hpe; subst hst; subst hpe; rfl
  rw [hrec] at hc''
  exact (show Cls w0 I' ((Value.ownBlock s3_v, .cells s3_c 9 (0, 0)) :: (some l, .loop rec) :: (some Bs, .cells #[s6_v] 64 (0, 0)) :: (Value.ownBlock s6_v, .cells s6_c 9 (0, 0)) :: A) w'' from hc'').tail
set_option maxRecDepth 20000 in
theorem append77 {M I : Mem} {bm Bm : Nat} {lst : List (List UInt8 × Value)} {K : KM} (hK : KRep ShTm M lst K) (hbox : I Bm = some (.cells #[.map (some bm)] 56 (0, 0))) (hmap : I bm = some (kobj lst)) (hlen : K.length ≤ 1099511627776) {w0 : World} {H : Heap} {w : World} (hc : Cls w0 I H w) :
    Calls Tryd.prog 77 #[.slice none 0 0, .func (.func 67) #[] #[ptr Bm 0]] w fun e w' => ∃ s : StK M, s.1.1.Perm (K.map Prod.fst) ∧ e = .returned s.1.2.1 ∧ Cls w0 I ((Value.ownBlock s.1.2.1, .cells s.1.2.2 9 (0, 0)) :: H) w' := by
  refine calls_of_CIM (S := [(0, .slice none 0 0), (1, .func (.func 67) #[] #[ptr Bm 0])]) (N := 13) (c := B77) Tryd.func77 rfl rfl rfl (by simp) hc ?_
  show CI _ _ _ _ _ _ (sub [] B77) _ _ _
  refine CI.seq (x := sub [0] B77) (y := sub [1] B77) ?_
  refine CI.rg (id := 0) [0, 1] [(.alloc, none), (.pure, none)] rfl rfl (by kernel_rfl) ?_
  refine DL.new (ob := .cells (#[.slice none 0 0]) 64) (mk := fun b => ptr b 0) (i := 0) rfl (Wn.none rfl) rfl rfl rfl (f_box (v := .slice none 0 0) rfl rfl) ?_
  intro Bs hBs
  refine DL.pu 4 (.slice none 0 0) rfl (p_assign rfl rfl) ?_
  refine DK.next0 rfl ?_
  refine CI.seq (x := sub [1, 0] B77) (y := sub [1, 1] B77) ?_
  refine CI.seq (x := sub [1, 0, 0] B77) (y := sub [1, 0, 1] B77) ?_
  refine CI.rg (id := 1) [0] [(.pure, none)] rfl rfl (by kernel_rfl) ?_
  refine DL.pu 6 (.func (.func 67) #[] #[ptr Bm 0]) rfl (p_move rfl rfl) ?_
  refine DK.next0 rfl ?_
  refine CI.block (c := sub [1, 0, 1, 0] B77) ?_
  refine CI.rangeFunc (X := {s : StK M // s.1.1.Perm (K.map Prod.fst)}) (g := .tmp 6) (ps := #[7]) (assign := sub [1, 0, 1, 0, 0] B77) (body := sub [1, 0, 1, 0, 1] B77) (jump := fun _ => none) (H' := fun s => (some Bs, .cells #[s.1.1.2.1] 64 (0, 0)) :: (Value.ownBlock s.1.1.2.1, .cells s.1.1.2.2 9 (0, 0)) :: H) rfl (fun args w => by kernel_rfl) ?_ ?_
  · intro l D rec hst hpe hps has hbo hag W1 hW1
    let s0 : StK M := ⟨([], .slice none 0 0, #[]), OwnS.nil Sh.str M⟩
    have hW2 : Cls w0 I (EK rec l Bs s0 ++ ((some D, .deferred (some [])) :: H)) W1 := by
      have := (hW1.nothing (.cells #[] 9 (0, 0))).perm (H2 := EK rec l Bs s0 ++ ((some D, .deferred (some [])) :: H)) ?_
      · exact this
      · show ((none, Obj.cells #[] 9 (0, 0)) :: (some l, Obj.loop rec) :: (some D, Obj.deferred (some [])) :: (some Bs, .cells #[.slice none 0 0] 64 (0, 0)) :: H).Perm ((some l, Obj.loop rec) :: (some Bs, .cells #[.slice none 0 0] 64 (0, 0)) :: (none, Obj.cells #[] 9 (0, 0)) :: (some D, Obj.deferred (some [])) :: H)
        refine (List.Perm.swap _ _ _).trans (List.Perm.cons _ ?_)
        exact List.perm_middle (l₁ := [_, _])
    refine (keys1 hK hbox hmap (EK rec l Bs) stepK (s0 := s0) (fun s x pre hpre hs => ?_) (Ext.refl _) hW2).mono ?_
    · have h1 := StK.steps hs
      have h2 : s.1.1.length = pre.length := by rw [h1]; simp [s0]
      exact appRoundK hst hpe hps has hbo (hag.sub (Sub.cons rfl (Sub.nil _))) s (by omega)
    · rintro e w' ⟨s', ⟨xs, hp, hs⟩, he, hc'⟩
      have h1 := StK.steps hs
      refine ⟨⟨s', ?_⟩, ⟨_, he⟩, rec, by rw [hst]; decide, hpe, ?_⟩
      · rw [h1]; simpa [s0] using hp
      · refine hc'.perm ?_
        show ((some l, Obj.loop rec) :: (some Bs, .cells #[s'.1.2.1] 64 (0, 0)) :: (Value.ownBlock s'.1.2.1, .cells s'.1.2.2 9 (0, 0)) :: (some D, Obj.deferred (some [])) :: H).Perm _
        exact List.Perm.cons _ (List.perm_middle (l₁ := [_, _]))
  · rintro D ⟨s, hs⟩
    show ∀ a w, _ → _ → _
    intro a w ha hc
    refine inBlock_normal ?_
    show ((sub [1, 1] B77).wpIn (FR none) 3 Tryd.prog (bodyPostM (FR none) 3 Tryd.prog _ _) (wd (markD D) a) w)
    refine (show CI none Tryd.prog (markD D) 13 w0 I (sub [1, 1] B77) (bodyPostM (FR none) 3 Tryd.prog _ _) _ _ from ?_) a w ha hc
    refine CI.seq (x := sub [1, 1, 0] B77) (y := sub [1, 1, 1] B77) ?_
    refine CI.rg (id := 4) [0, 1] [(.quiet, none), (.pure, none)] rfl rfl (by kernel_rfl) ?_
    refine DL.qu 12 s.1.2.1 rfl (f_load (j := 1) ty_a64 rfl rfl rfl rfl) ?_
    refine DL.pu 4 s.1.2.1 rfl (p_assign rfl rfl) ?_
    refine DK.next0 rfl ?_
    refine CI.retM (rs := [.tmp 4]) (vs := [s.1.2.1]) (v := s.1.2.1) (G := (some Bs, .cells #[s.1.2.1] 64 (0, 0)) :: (Value.ownBlock s.1.2.1, .cells s.1.2.2 9 (0, 0)) :: H) rfl Tryd.func77 rfl rfl rfl (res_cons (ResV.tmp rfl) res_nil) (List.Perm.refl _) fun w' hc' => ?_
    exact ⟨s, hs, rfl, hc'.tail⟩
end Go.Proofs.YtfbogkhgfaibbaaDoor
end

section
namespace Go.Proofs.YtfbogkhgfaibbaaDoor
open Go Go.HW Go.RowKit
set_option linter.unusedVariables false
set_option linter.unusedSimpArgs false

set_option maxRecDepth 20000 in
theorem collect65 {M I : Mem} {bm Bm : Nat} {lst : List (List UInt8 × Value)} {K : KM} (hK : KRep ShTm M lst K) (hbox : I Bm = some (.cells #[.map (some bm)] 56 (0, 0))) (hmap : I bm = some (kobj lst)) (hlen : K.length ≤ 1099511627776) {w0 : World} {H : Heap} {w : World} (hc : Cls w0 I H w) :
    Calls Tryd.prog 65 #[.func (.func 67) #[] #[ptr Bm 0]] w fun e w' => ∃ s : StK M, s.1.1.Perm (K.map Prod.fst) ∧ e = .returned s.1.2.1 ∧ Cls w0 I ((Value.ownBlock s.1.2.1, .cells s.1.2.2 9 (0, 0)) :: H) w' := by
  refine calls_of_TTG (S := [(0, .func (.func 67) #[] #[ptr Bm 0])]) (N := 5) (b := B65) hc Tryd.func65 rfl rfl rfl (by simp) ?_
  show TT _ _ _ _ _ _ [.code (sub [] B65)] _ _
  refine TT.seq (x := sub [0] B65) (y := sub [1] B65) ?_
  refine TT.region (id := 0) (n := 1) (ops := opsOf (sub [0] B65)) [(.pure, none)] rfl ?_
  show DL _ _ _ _ _ _ _ _ _ _ [0] _ _
  refine DL.pu 2 (.slice none 0 0) rfl (p_assign rfl rfl) ?_
  refine DL.nil ?_
  refine TT.seq (x := sub [1, 0] B65) (y := sub [1, 1] B65) ?_
  refine TT.region (id := 1) (n := 3) (ops := opsOf (sub [1, 0] B65)) [(.pure, none), (.actx, none), (.pure, none)] rfl ?_
  show DL _ _ _ _ _ _ _ _ _ _ [0, 1, 2] _ _
  refine DL.pu 3 (.func (.func 67) #[] #[ptr Bm 0]) rfl (p_move rfl rfl) ?_
  refine DL.actx (X := {s : StK M // s.1.1.Perm (K.map Prod.fst)}) (u := fun s => s.1.1.2.1) (H' := fun s => (Value.ownBlock s.1.1.2.1, .cells s.1.1.2.2 9 (0, 0)) :: H) (i := 1) rfl (Wn.none rfl) rfl rfl rfl (f_callA (args := #[.slice none 0 0, .func (.func 67) #[] #[ptr Bm 0]]) (caps := #[]) (g := 77) rfl rfl rfl rfl (args_val (vs := [.slice none 0 0, .func (.func 67) #[] #[ptr Bm 0]]) rfl) (fun w => by kernel_rfl) fun w1 hc1 => (append77 hK hbox hmap hlen hc1).mono fun e w' ⟨s, hs, he, hc'⟩ => ⟨⟨s, hs⟩, he, hc'⟩) ?_
  rintro ⟨s, hs⟩
  refine DL.pu 2 s.1.2.1 rfl (p_assign rfl rfl) ?_
  refine DL.nil ?_
  exact retR (rs := [.tmp 2]) (vs := [s.1.2.1]) (v := s.1.2.1) Tryd.func65 rfl rfl rfl (res_cons (ResV.tmp rfl) res_nil) fun w' hc' => ⟨s, hs, rfl, hc'⟩
theorem keys43 {I : Mem} {bm : Nat} {w0 : World} {H : Heap} {w : World} (hc : Cls w0 I H w) :
    Calls Tryd.prog 43 #[.map (some bm)] w fun e w' => ∃ Bm : Nat, e = .returned (.func (.func 67) #[] #[ptr Bm 0]) ∧ Cls w0 I ((some Bm, .cells #[.map (some bm)] 56 (0, 0)) :: H) w' := by
  refine calls_of_TTG (S := [(0, .map (some bm))]) (N := 4) (b := B43) hc Tryd.func43 rfl rfl rfl (by simp) ?_
  show TT _ _ _ _ _ _ [.code (sub [] B43)] _ _
  refine TT.seq (x := sub [0] B43) (y := sub [1] B43) ?_
  refine TT.region (id := 0) (n := 2) (ops := opsOf (sub [0] B43)) [(.alloc, none), (.pure, none)] rfl ?_
  show DL _ _ _ _ _ _ _ _ _ _ [0, 1] _ _
  refine DL.new (ob := .cells (#[.map (some bm)]) 56) (mk := fun b => ptr b 0) (i := 0) rfl (Wn.none rfl) rfl rfl rfl (f_box (v := .map (some bm)) rfl rfl) ?_
  intro Bm hBm
  refine DL.pu 2 .nilFunc rfl (p_assign rfl rfl) ?_
  refine DL.nil ?_
  refine TT.seq (x := sub [1, 0] B43) (y := sub [1, 1] B43) ?_
  refine TT.region (id := 1) (n := 2) (ops := opsOf (sub [1, 0] B43)) [(.pure, none), (.pure, none)] rfl ?_
  show DL _ _ _ _ _ _ _ _ _ _ [0, 1] _ _
  refine DL.pu 3 (.func (.func 67) #[] #[ptr Bm 0]) rfl (p_makeFunc rfl (args_val (vs := [ptr Bm 0]) rfl)) ?_
  refine DL.pu 2 (.func (.func 67) #[] #[ptr Bm 0]) rfl (p_assign rfl rfl) ?_
  refine DL.nil ?_
  exact retR (rs := [.tmp 2]) (vs := [.func (.func 67) #[] #[ptr Bm 0]]) (v := .func (.func 67) #[] #[ptr Bm 0]) Tryd.func43 rfl rfl rfl (res_cons (ResV.tmp rfl) res_nil) fun w' hc' => ⟨Bm, rfl, hc'⟩
end Go.Proofs.YtfbogkhgfaibbaaDoor
end
