import Derived.Test.YtfbogkhgfaibbaaDoorTmY
section
namespace Go.Proofs.YtfbogkhgfaibbaaDoor
open Go Go.HW Go.RowKit
set_option linter.unusedVariables false
set_option linter.unusedSimpArgs false

/-! ### what may be handed in -/
abbrev Fit (u : U) : Prop := u.ok ∧ u.size ≤ 2000
theorem mayR {t : Tm} (h : TOk t) : ∃ b, ref29_May.f t = some b ∧ (b = true → ∃ u, u.tm = t ∧ Fit u) := by
  unfold ref29_May.f
  rw [sized t (by decide) (by decide), Option.bind_some]
  by_cases c : (tsz t : Int) ≤ 2000
  · have e : szTo t 2000 = (tsz t : Int) := by unfold szTo; rw [if_pos c]
    rw [e, tt (by simpa using c), form_u (Tm.fuel _) _ (Nat.le_refl _) h (by omega)]
    refine ⟨_, rfl, fun hb => ?_⟩
    obtain ⟨u, hu⟩ := Option.isSome_iff_exists.1 hb
    obtain ⟨e1, e2⟩ := toU_tm hu
    refine ⟨u, e1, e2, ?_⟩
    have := tsz_u u
    rw [e1] at this; omega
  · have e : szTo t 2000 = 2000 + 1 := by unfold szTo; rw [if_neg c]
    rw [e]
    exact ⟨false, rfl, fun hb => by cases hb⟩
theorem all_map {xs : List Tm} (h : ∀ t ∈ xs, ∃ u, u.tm = t ∧ Fit u) : ∃ us : List U, xs = us.map U.tm ∧ ∀ u ∈ us, Fit u := by
  induction xs with
  | nil => exact ⟨[], rfl, fun u hu => by cases hu⟩
  | cons t xs ih =>
    obtain ⟨us, e, hu⟩ := ih fun t ht => h t (List.mem_cons_of_mem _ ht)
    obtain ⟨u, e2, hu2⟩ := h t List.mem_cons_self
    refine ⟨u :: us, by rw [e, List.map_cons, e2], fun v hv => ?_⟩
    rcases List.mem_cons.1 hv with rfl | hv
    · exact hu2
    · exact hu v hv
theorem all_law {xs : List Tm} (hl : xs.length ≤ 1099511627776) (h : ∀ t ∈ xs, TOk t) : ∃ b, law29_all.f xs = some b ∧ (b = true → ∃ us : List U, xs = us.map U.tm ∧ ∀ u ∈ us, Fit u) := by
  unfold law29_all.f
  have := each_loop (xs := xs) (B := Bool) (L := law29_all.L0 xs) (step := fun t => (ref29_May.f t).bind fun b => if b then some none else some (some false)) hl (fun q i r hi hst => ?_) (fun q => ?_) (fun t ht => ?_) (((xs.length : Int)).toNat + 1) 0 (by omega) (by omega)
  · rcases this with ⟨h1, h2⟩ | ⟨b, h1, x, hx, h2⟩
    · rw [show ((0 : Nat) : Int) = 0 from rfl] at h1
      rw [h1]
      refine ⟨true, rfl, fun _ => all_map fun t ht => ?_⟩
      have h3 := h2 t (by rwa [List.drop_zero])
      obtain ⟨b, e, hb⟩ := mayR (h t ht)
      rw [e, Option.bind_some] at h3
      cases b with
      | true => exact hb rfl
      | false => simp at h3
    · rw [show ((0 : Nat) : Int) = 0 from rfl] at h1
      rw [List.drop_zero] at hx
      obtain ⟨c, e, hb⟩ := mayR (h x hx)
      rw [e, Option.bind_some] at h2
      cases c with
      | true => simp at h2
      | false =>
        simp at h2; subst h2
        rw [h1]; exact ⟨false, rfl, fun hh => by cases hh⟩
  · rw [law29_all.L0]
    have c' : (i : Int) < (xs.length : Int) := by omega
    simp only [c', decide_true, if_true, nm, Int.toNat_natCast]
    rw [reqT (show (0 : Int) ≤ (i : Int) by omega), reqT trivial]
    obtain ⟨b, e, hb⟩ := mayR (h _ (tgetD_mem hi))
    rw [e, Option.bind_some] at hst
    rw [e, Option.bind_some]
    cases b <;> simp at hst <;> subst hst <;> simp
  · rw [law29_all.L0]; simp
  · obtain ⟨b, e, hb⟩ := mayR (h t ht)
    rw [e, Option.bind_some]; cases b <;> exact ⟨_, rfl⟩
theorem much_L0 (xs : List Tm) : ∀ (k i : Nat) (x : Int), 31 - i < k → 0 ≤ x → x ≤ 400 * i → i ≤ 31 → ∃ z, ref29_Much.L0 xs k x (i : Int) = some z
  | 0, i, x, h, _, _, _ => by omega
  | k + 1, i, x, h, h0, h1, h2 => by
    rw [ref29_Much.L0]
    by_cases c : i < xs.length
    · have c' : (i : Int) < (xs.length : Int) := by omega
      by_cases c2 : (i : Int) ≤ 30
      · simp only [c', c2, decide_true, if_true, Option.bind_some, nm, Int.toNat_natCast]
        rw [reqT (show (0 : Int) ≤ (i : Int) by omega), reqT trivial, sized _ (by decide) (by decide), Option.bind_some, wrap_succ (by omega)]
        have hz : 0 ≤ szTo (xs.getD i Tm.dflt) 301 ∧ szTo (xs.getD i Tm.dflt) 301 ≤ 302 := by unfold szTo; split <;> omega
        rw [w64 (by omega) (by omega)]
        exact much_L0 xs k (i + 1) _ (by omega) (by omega) (by omega) (by omega)
      · simp only [c', c2, decide_true, decide_false, if_true, Option.bind_some, Bool.false_eq_true, if_false]
        exact ⟨_, rfl⟩
    · have c' : ¬ (i : Int) < (xs.length : Int) := by omega
      simp only [c', decide_false, Bool.false_eq_true, if_false, Option.bind_some]
      exact ⟨_, rfl⟩
theorem much_law (xs : List Tm) : ∃ b, ref29_Much.f xs = some b ∧ (b = false → xs.length ≤ 30) := by
  obtain ⟨z, hz⟩ := much_L0 xs ((30 : Int).toNat + 2) 0 0 (by decide) (by decide) (by decide) (by decide)
  unfold ref29_Much.f
  rw [show ((0 : Nat) : Int) = 0 from rfl] at hz
  rw [hz, Option.bind_some]
  by_cases c : (30 : Int) < (xs.length : Int)
  · exact ⟨true, by simp [c], fun h => by cases h⟩
  · exact ⟨decide (300 < z), by simp [c], fun _ => by omega⟩

/-! #### the program's May -/
theorem fits_u : ∀ {u : U}, u.ok → ∀ {k : Nat} {b : Int}, u.tm.depth ≤ k → (u.size : Int) ≤ b → b ≤ 100000 → terms_fits.f k u.tm b = some (true, b - u.size) := by
  intro u
  induction u with
  | d n =>
    intro h k b hk hb hb2
    cases k with
    | zero => simp [U.tm, depth_leaf] at hk
    | succ k =>
      simp only [U.size] at hb ⊢
      have h1 := h.1
      show terms_fits.F _ (Tm.mk 1 n []) b = _
      unfold terms_fits.F
      simp only [kind_mk, num_mk, kids_mk]
      rw [w64 (n := b - 1) (by omega) (by omega)]
      have e1 : fmIs 1 = true := by decide
      have e2 : fmArgs 1 = 0 := by decide
      simp [e1, e2, nm, show ¬ b - 1 < 0 by omega, show ¬ n < 0 by omega, terms_fits.L0, kids_mk, onw]
  | s n =>
    intro h k b hk hb hb2
    cases k with
    | zero => simp [U.tm, depth_leaf] at hk
    | succ k =>
      simp only [U.size] at hb ⊢
      have h1 := h.1
      show terms_fits.F _ (Tm.mk 2 n []) b = _
      unfold terms_fits.F
      simp only [kind_mk, num_mk, kids_mk]
      rw [w64 (n := b - 1) (by omega) (by omega)]
      have e1 : fmIs 2 = true := by decide
      have e2 : fmArgs 2 = 0 := by decide
      simp [e1, e2, nm, show ¬ b - 1 < 0 by omega, show ¬ n < 0 by omega, terms_fits.L0, kids_mk, onw]
  | un c a ih =>
    intro h k b hk hb hb2
    cases k with
    | zero => rw [U.tm, depth_un] at hk; omega
    | succ k =>
      rw [U.tm, depth_un] at hk
      simp only [U.size] at hb ⊢
      have ha := ih h (k := k) (b := b - 1) (by omega) (by omega) (by omega)
      show terms_fits.F (terms_fits.f k) (Tm.mk c.num 0 [a.tm]) b = _
      unfold terms_fits.F
      simp only [kind_mk, num_mk, kids_mk]
      rw [w64 (n := b - 1) (by omega) (by omega)]
      have e1 : fmIs c.num = true := by cases c <;> decide
      have e2 : fmArgs c.num = 1 := by cases c <;> decide
      simp [e1, e2, nm, req, show ¬ b - 1 < 0 by omega, terms_fits.L0, kids_mk, onw, ha, wrap1]
      omega
  | bi c a b2 iha ihb =>
    intro h k b hk hb hb2
    cases k with
    | zero => rw [U.tm] at hk; have := depth_bi c.num 0 a.tm b2.tm; omega
    | succ k =>
      rw [U.tm] at hk
      have hd := depth_bi c.num 0 a.tm b2.tm
      simp only [U.size] at hb ⊢
      have ha := iha h.1 (k := k) (b := b - 1) (by omega) (by omega) (by omega)
      have hb' := ihb h.2 (k := k) (b := b - 1 - a.size) (by omega) (by omega) (by omega)
      show terms_fits.F (terms_fits.f k) (Tm.mk c.num 0 [a.tm, b2.tm]) b = _
      unfold terms_fits.F
      simp only [kind_mk, num_mk, kids_mk]
      rw [w64 (n := b - 1) (by omega) (by omega)]
      have e1 : fmIs c.num = true := by cases c <;> decide
      have e2 : fmArgs c.num = 2 := by cases c <;> decide
      simp [e1, e2, nm, req, show ¬ b - 1 < 0 by omega, terms_fits.L0, kids_mk, onw, ha, hb', wrap1, wrap2]
      omega
theorem may_u {u : U} (h : Fit u) : terms_May.f u.tm = some true := by
  have h2 := h.2
  unfold terms_May.f
  show Option.bind (terms_fits.f (Tm.fuel u.tm) u.tm 2000) _ = _
  rw [fits_u (k := Tm.fuel u.tm) h.1 (Nat.le_refl _) (by omega) (by decide)]; rfl
theorem may_all {us : List U} (hl : us.length ≤ 500) (h : ∀ u ∈ us, Fit u) : terms_may.f (us.map U.tm) = some true := by
  have hs : ∀ t ∈ us.map U.tm, terms_may_1.f t = some false := fun t ht => by
    obtain ⟨u, hu, rfl⟩ := List.mem_map.1 ht
    unfold terms_may_1.f; rw [may_u (h u hu)]; rfl
  have := each_loop (xs := us.map U.tm) (B := Int) (L := idx55.L0 (us.map U.tm)) (step := fun t => some none) (by simp; omega) (fun q i r hi hst => ?_) (fun q => ?_) (fun t ht => ⟨_, rfl⟩) ((((us.map U.tm).length : Int)).toNat + 1) 0 (by omega) (by omega)
  · rcases this with ⟨h1, h2⟩ | ⟨b, h1, x, hx, h2⟩
    · unfold terms_may.f cont55.f idx55.f
      rw [show ((0 : Nat) : Int) = 0 from rfl] at h1
      rw [h1, tt (by simp; omega)]; rfl
    · cases h2
  · cases hst
    rw [idx55.L0]
    have c' : (i : Int) < ((us.map U.tm).length : Int) := by omega
    simp only [c', decide_true, if_true, nm, Int.toNat_natCast]
    rw [reqT (show (0 : Int) ≤ (i : Int) by omega), reqT trivial, hs _ (tgetD_mem hi)]
    rfl
  · rw [idx55.L0]; simp

/-! #### Can -/
/-- u can be made out of these. -/
def Known2 (us : List U) (v : U) : Prop := Syn (Der fun x => ∃ y ∈ us, x = y.ordr) v
theorem base_iff {us : List U} : (fun x => x ∈ baseU [] us) = fun x => ∃ y ∈ us, x = U.ordr y := by
  funext x; exact propext (by rw [baseU_mem]; simp)
theorem synB_known {us : List U} {v : U} : synB (learnU us) v = true ↔ Known2 us v := by
  have hl := learnU_ok us
  have e : (fun x => x ∈ learnU us) = Der fun x => ∃ y ∈ us, x = U.ordr y := by
    funext x; exact propext (by rw [hl.1.all hl.2, base_iff])
  rw [synB_iff, e]; rfl
theorem learn_u {us : List U} (hl : us.length ≤ 500) (h : ∀ u ∈ us, Fit u) : terms_learn.f (us.map U.tm) = some (toKM (learnU us)) := by
  unfold terms_learn.f
  rw [if_pos (by simpa using hl), goodL_of h]; rfl
theorem learn_kok {us : List U} (h : ∀ u ∈ us, Fit u) : KOk (learnU us) := (learnU_ok us).1.kok (base_ok h)
theorem Can_u {us : List U} {u : U} (hl : us.length ≤ 500) (h : ∀ u ∈ us, Fit u) (hu : Fit u) : terms_Can.f u.tm (us.map U.tm) = some (synB (learnU us) u.ordr) := by
  have hu2 := hu.2
  unfold terms_Can.f
  rw [may_u hu, Option.bind_some, tt rfl, may_all hl h]
  simp only [Option.bind_some, if_true]
  rw [learn_u hl h, Option.bind_some]
  show Option.bind (Option.bind (terms_order.f (Tm.fuel u.tm) u.tm) _) _ = _
  rw [orderd hu.1 (by omega)]
  simp only [Option.bind_some]
  rw [canM_u (learn_kok h) (ordr_ok hu.1) (by rw [ordr_size]; omega)]; rfl
open Classical in
theorem Can_p {us : List U} {u : U} (hl : us.length ≤ 500) (h : ∀ u ∈ us, Fit u) (hu : Fit u) : terms_Can.f u.tm (us.map U.tm) = some (decide (Known2 us u.ordr)) := by
  rw [Can_u hl h hu]; congr 1
  by_cases c : Known2 us u.ordr
  · rw [synB_known.2 c]; simp [c]
  · cases hq : synB (learnU us) u.ordr with
    | true => exact absurd (synB_known.1 hq) c
    | false => simp [c]
end Go.Proofs.YtfbogkhgfaibbaaDoor
end

section
namespace Go.Proofs.YtfbogkhgfaibbaaDoor
open Go Go.HW Go.RowKit
set_option linter.unusedVariables false
set_option linter.unusedSimpArgs false
theorem known_law : law29_known.f = some true := by kernel_rfl

/-! ### TermsKeeps -/
def bareB (n : Int) : U → Bool
  | .s m => m == n
  | .bi .pair a b => bareB n a || bareB n b
  | .bi .enc _ b => bareB n b
  | .bi .sign _ b => bareB n b
  | _ => false
theorem bare_ordr {n : Int} : ∀ {u : U}, bareB n u.ordr = bareB n u
  | .d _ => rfl
  | .s _ => rfl
  | .un _ _ => rfl
  | .bi k a b => by
    have ha := bare_ordr (n := n) (u := a)
    have hb := bare_ordr (n := n) (u := b)
    rw [ordr_bi]
    split
    · rename_i h; rw [h.1]; rfl
    · cases k <;> simp [bareB, ha, hb]
theorem keeps {us : List U} {n : Int} (h : ∀ u ∈ us, bareB n u = false) : ¬ Known2 us (.s n) := fun hk => by
  have hd : Der (fun x => ∃ y ∈ us, x = y.ordr) (.s n) := hk
  have := hd (fun u => bareB n u = false) (fun u ⟨y, hy, e⟩ => by rw [e, bare_ordr]; exact h y hy) fun u hu p hp => by
    cases u with
    | bi k a b =>
      cases k
      case pair =>
        have hu : (bareB n a || bareB n b) = false := hu
        rw [Bool.or_eq_false_iff] at hu
        rcases hp with rfl | rfl
        · exact hu.1
        · exact hu.2
      case sign => obtain rfl : p = b := hp; exact hu
      case enc => obtain rfl : p = b := hp.2; exact hu
      all_goals exact hp.elim
    | _ => exact hp.elim
  simp [bareB] at this
end Go.Proofs.YtfbogkhgfaibbaaDoor
end

section
namespace Go.Proofs.YtfbogkhgfaibbaaDoor
open Go Go.HW Go.RowKit
set_option linter.unusedVariables false
set_option linter.unusedSimpArgs false

/-! ### the reference's Text and Order at terms that fit -/
theorem less_tri : ∀ (a b : List UInt8), lessL a b = true ∨ a = b ∨ lessL b a = true
  | [], [] => .inr (.inl rfl)
  | [], _ :: _ => .inl rfl
  | _ :: _, [] => .inr (.inr rfl)
  | x :: a, y :: b => by
    have ih := less_tri a b
    unfold lessL at ih ⊢
    simp only [Op.bytesLess, Bool.or_eq_true, Bool.and_eq_true, decide_eq_true_eq, beq_iff_eq, List.cons.injEq]
    rcases Nat.lt_trichotomy x.toNat y.toNat with h | h | h
    · exact .inl (.inl (UInt8.lt_iff_toNat_lt.2 h))
    · have e : x = y := UInt8.toNat_inj.1 h
      subst e
      rcases ih with h | h | h
      · exact .inl (.inr ⟨rfl, h⟩)
      · exact .inr (.inl ⟨rfl, h⟩)
      · exact .inr (.inr (.inr ⟨rfl, h⟩))
    · exact .inr (.inr (.inl (UInt8.lt_iff_toNat_lt.2 h)))
theorem less_asym : ∀ {a b : List UInt8}, lessL a b = true → lessL b a = true → False
  | [], [], h, _ => by cases h
  | [], _ :: _, _, h => by cases h
  | _ :: _, [], h, _ => by cases h
  | x :: a, y :: b, h, h2 => by
    unfold lessL at h h2
    simp only [Op.bytesLess, Bool.or_eq_true, Bool.and_eq_true, decide_eq_true_eq, beq_iff_eq] at h h2
    rcases h with h | ⟨rfl, h⟩ <;> rcases h2 with h2 | ⟨e, h2⟩
    · have h := UInt8.lt_iff_toNat_lt.1 h
      have h2 := UInt8.lt_iff_toNat_lt.1 h2
      omega
    · subst e; have h := UInt8.lt_iff_toNat_lt.1 h; omega
    · have h2 := UInt8.lt_iff_toNat_lt.1 h2; omega
    · exact less_asym (a := a) (b := b) h h2
theorem swap_false {a b : List UInt8} (h : (lessL a b || a == b) = false) : (lessL b a || b == a) = true := by
  rw [Bool.or_eq_false_iff] at h
  rcases less_tri a b with h1 | h1 | h1
  · rw [h.1] at h1; cases h1
  · have := h.2; rw [h1] at this; simp at this
  · rw [h1]; rfl
theorem ordr_swap {a b : U} (ha : a.ok) (hb : b.ok) : (U.bi .shared a b).ordr = (U.bi .shared b a).ordr := by
  rw [ordr_bi, ordr_bi]
  by_cases c : (lessL a.ordr.txt b.ordr.txt || a.ordr.txt == b.ordr.txt) = false
  · rw [if_pos ⟨rfl, c⟩, if_neg (fun h => by rw [swap_false c] at h; exact absurd h.2 (by simp))]
  · rw [if_neg (fun h => c h.2)]
    by_cases c2 : (lessL b.ordr.txt a.ordr.txt || b.ordr.txt == a.ordr.txt) = false
    · rw [if_pos ⟨rfl, c2⟩]
    · rw [if_neg (fun h => c2 h.2)]
      have h1 := (by cases hh : (lessL a.ordr.txt b.ordr.txt || a.ordr.txt == b.ordr.txt) with | true => rfl | false => exact absurd hh c : (lessL a.ordr.txt b.ordr.txt || a.ordr.txt == b.ordr.txt) = true)
      have h2 := (by cases hh : (lessL b.ordr.txt a.ordr.txt || b.ordr.txt == a.ordr.txt) with | true => rfl | false => exact absurd hh c2 : (lessL b.ordr.txt a.ordr.txt || b.ordr.txt == a.ordr.txt) = true)
      have e : a.ordr.txt = b.ordr.txt := by
        simp only [Bool.or_eq_true, beq_iff_eq] at h1 h2
        rcases h1 with h1 | h1
        · rcases h2 with h2 | h2
          · exact (less_asym h1 h2).elim
          · exact h2.symm
        · exact h1
      rw [txt_inj (ordr_ok ha) (ordr_ok hb) e]
end Go.Proofs.YtfbogkhgfaibbaaDoor
end
