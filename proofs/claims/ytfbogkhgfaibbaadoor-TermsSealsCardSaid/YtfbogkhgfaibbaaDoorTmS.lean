import Derived.Test.YtfbogkhgfaibbaaDoorTmM
import Derived.Test.YtfbogkhgfaibbaaDoorTc1
namespace Go.Proofs.YtfbogkhgfaibbaaDoor
open Go Go.HW Go.RowKit
set_option linter.unusedVariables false
set_option linter.unusedSimpArgs false

/-! ### TermsSeals -/
theorem equal_u : ∀ {u : U} (v : U) {k : Nat}, u.tm.depth ≤ k → ref29_Equal.f k u.tm v.tm = some (decide (u = v)) := by
  intro u
  induction u with
  | d n =>
    intro v k hk
    cases k with
    | zero => simp [U.tm, depth_leaf] at hk
    | succ k =>
      show ref29_Equal.F (ref29_Equal.f k) (Tm.mk 1 n []) v.tm = _
      unfold ref29_Equal.F
      cases v with
      | d m => simp only [kind_mk, num_mk, kids_mk, U.tm]; by_cases e : n = m <;> simp [e, nm, ref29_Equal.L0, kids_mk, onw]
      | s m => simp [kind_mk, num_mk, kids_mk, U.tm]
      | un c b => cases c <;> simp [kind_mk, num_mk, kids_mk, U.tm, K1.num]
      | bi c b d => cases c <;> simp [kind_mk, num_mk, kids_mk, U.tm, K2.num]
  | s n =>
    intro v k hk
    cases k with
    | zero => simp [U.tm, depth_leaf] at hk
    | succ k =>
      show ref29_Equal.F (ref29_Equal.f k) (Tm.mk 2 n []) v.tm = _
      unfold ref29_Equal.F
      cases v with
      | d m => simp [kind_mk, num_mk, kids_mk, U.tm]
      | s m => simp only [kind_mk, num_mk, kids_mk, U.tm]; by_cases e : n = m <;> simp [e, nm, ref29_Equal.L0, kids_mk, onw]
      | un c b => cases c <;> simp [kind_mk, num_mk, kids_mk, U.tm, K1.num]
      | bi c b d => cases c <;> simp [kind_mk, num_mk, kids_mk, U.tm, K2.num]
  | un c a ih =>
    intro v k hk
    cases k with
    | zero => rw [U.tm, depth_un] at hk; omega
    | succ k =>
      rw [U.tm, depth_un] at hk
      show ref29_Equal.F (ref29_Equal.f k) (Tm.mk c.num 0 [a.tm]) v.tm = _
      unfold ref29_Equal.F
      cases v with
      | d m => cases c <;> simp [kind_mk, num_mk, kids_mk, U.tm, K1.num]
      | s m => cases c <;> simp [kind_mk, num_mk, kids_mk, U.tm, K1.num]
      | un c2 b =>
        have hb := ih b (k := k) (by omega)
        by_cases e : a = b
        · subst e; cases c <;> cases c2 <;> simp [kind_mk, num_mk, kids_mk, U.tm, K1.num, nm, req, ref29_Equal.L0, onw, hb, wrap1]
        · cases c <;> cases c2 <;> simp [kind_mk, num_mk, kids_mk, U.tm, K1.num, nm, req, ref29_Equal.L0, onw, hb, e, wrap1]
      | bi c2 b d => cases c <;> cases c2 <;> simp [kind_mk, num_mk, kids_mk, U.tm, K1.num, K2.num, nm]
  | bi c a b iha ihb =>
    intro v k hk
    cases k with
    | zero => rw [U.tm] at hk; have := depth_bi c.num 0 a.tm b.tm; omega
    | succ k =>
      rw [U.tm] at hk
      have hd := depth_bi c.num 0 a.tm b.tm
      show ref29_Equal.F (ref29_Equal.f k) (Tm.mk c.num 0 [a.tm, b.tm]) v.tm = _
      unfold ref29_Equal.F
      cases v with
      | d m => cases c <;> simp [kind_mk, num_mk, kids_mk, U.tm, K2.num]
      | s m => cases c <;> simp [kind_mk, num_mk, kids_mk, U.tm, K2.num]
      | un c2 d => cases c <;> cases c2 <;> simp [kind_mk, num_mk, kids_mk, U.tm, K1.num, K2.num, nm]
      | bi c2 d g =>
        have h1 := iha d (k := k) (by omega)
        have h2 := ihb g (k := k) (by omega)
        by_cases e : a = d
        · subst e
          by_cases e2 : b = g
          · subst e2; cases c <;> cases c2 <;> simp [kind_mk, num_mk, kids_mk, U.tm, K2.num, nm, req, ref29_Equal.L0, onw, h1, h2, wrap1, wrap2]
          · cases c <;> cases c2 <;> simp [kind_mk, num_mk, kids_mk, U.tm, K2.num, nm, req, ref29_Equal.L0, onw, h1, h2, e2, wrap1, wrap2]
        · cases c <;> cases c2 <;> simp [kind_mk, num_mk, kids_mk, U.tm, K2.num, nm, req, ref29_Equal.L0, onw, h1, e, wrap1, wrap2]
theorem walk_u : ∀ {u : U} {k : Nat} {y : List Tm}, u.tm.depth ≤ k → y.length + u.size ≤ 1000000 → law29_walk.f k u.tm y = some (y ++ (subs u).map U.tm) := by
  intro u
  induction u with
  | d n =>
    intro k y hk hy
    cases k with
    | zero => simp [U.tm, depth_leaf] at hk
    | succ k =>
      simp only [U.size] at hy
      show law29_walk.F (law29_walk.f k) (Tm.mk 1 n []) y = _
      unfold law29_walk.F
      rw [reqT (by simp; omega)]; simp [law29_walk.L0, kids_mk, subs, U.tm]
  | s n =>
    intro k y hk hy
    cases k with
    | zero => simp [U.tm, depth_leaf] at hk
    | succ k =>
      simp only [U.size] at hy
      show law29_walk.F (law29_walk.f k) (Tm.mk 2 n []) y = _
      unfold law29_walk.F
      rw [reqT (by simp; omega)]; simp [law29_walk.L0, kids_mk, subs, U.tm]
  | un c a ih =>
    intro k y hk hy
    cases k with
    | zero => rw [U.tm, depth_un] at hk; omega
    | succ k =>
      rw [U.tm, depth_un] at hk
      simp only [U.size] at hy
      have ha := ih (k := k) (y := y ++ [(U.un c a).tm]) (by omega) (by simp; omega)
      show law29_walk.F (law29_walk.f k) (Tm.mk c.num 0 [a.tm]) y = _
      unfold law29_walk.F
      rw [reqT (by simp; omega)]
      simp only [U.tm] at ha
      simp [law29_walk.L0, kids_mk, subs, U.tm, nm, req, ha, wrap1]
  | bi c a b iha ihb =>
    intro k y hk hy
    cases k with
    | zero => rw [U.tm] at hk; have := depth_bi c.num 0 a.tm b.tm; omega
    | succ k =>
      rw [U.tm] at hk
      have hd := depth_bi c.num 0 a.tm b.tm
      simp only [U.size] at hy
      have ha := iha (k := k) (y := y ++ [(U.bi c a b).tm]) (by omega) (by simp; omega)
      have hb := ihb (k := k) (y := y ++ [(U.bi c a b).tm] ++ (subs a).map U.tm) (by omega) (by simp [subs_len]; omega)
      show law29_walk.F (law29_walk.f k) (Tm.mk c.num 0 [a.tm, b.tm]) y = _
      unfold law29_walk.F
      rw [reqT (by simp; omega)]
      simp only [U.tm, List.append_assoc, List.cons_append, List.nil_append] at ha hb
      simp [law29_walk.L0, kids_mk, subs, U.tm, nm, req, ha, hb, wrap1, wrap2]
/-- Out of which nothing comes that holds x, x is of no use. -/
theorem syn_less {D : U → Prop} {n : Int} {x : U} : ∀ {a : U}, ¬ U.bi .enc (.s n) x ∈ subs a → Syn (fun u => D u ∨ u = .bi .enc (.s n) x) a → Syn D a
  | .d _, _, _ => trivial
  | .s _, _, h => h.elim id fun e => by cases e
  | .un _ a, hn, h => by
    rcases h with h | h
    · exact .inl (h.elim id fun e => by cases e)
    · exact .inr (syn_less (fun hm => hn (List.mem_cons_of_mem _ hm)) h)
  | .bi k a b, hn, h => by
    have hm : ∀ {y : U}, (D y ∨ y = .bi .enc (.s n) x) → y ∈ subs (.bi k a b) → D y := fun {y} hy hs => hy.elim id fun e => absurd (e ▸ hs) hn
    have hself := fun y : D (.bi k a b) ∨ U.bi k a b = .bi .enc (.s n) x => hm y (subs_self _)
    have ha := fun y => syn_less (D := D) (n := n) (x := x) (a := a) (fun hh => hn (List.mem_cons_of_mem _ (List.mem_append_left _ hh))) y
    have hb := fun y => syn_less (D := D) (n := n) (x := x) (a := b) (fun hh => hn (List.mem_cons_of_mem _ (List.mem_append_right _ hh))) y
    cases k
    case shared =>
      rcases h with h | ⟨h1, h2⟩ | ⟨h1, h2⟩
      · exact .inl (hself h)
      · exact .inr (.inl ⟨ha h1, h2.imp hb fun h => h.elim id fun e => by cases e⟩)
      · exact .inr (.inr ⟨hb h1, h2.elim id fun e => by cases e⟩)
    all_goals exact h.imp hself fun ⟨h1, h2⟩ => ⟨ha h1, hb h2⟩
theorem der_subs {B : U → Prop} {u : U} (h : Der B u) : ∃ b, B b ∧ u ∈ subs b :=
  h (fun u => ∃ b, B b ∧ u ∈ subs b) (fun u hu => ⟨u, hu, subs_self u⟩) fun u ⟨b, hb, hs⟩ p hp => ⟨b, hb, subs_trans hs (an_subs hp)⟩
theorem sealed {us : List U} {n m : Int} {v : U} (hk : ¬ Known2 us (.s n)) (hn : ∀ y ∈ us, ¬ U.bi .enc (.s n) v.ordr ∈ subs y.ordr) (h : Known2 (us ++ [.bi .enc (.s n) v]) (.s m)) : Known2 us (.s m) := by
  have hd : Der (fun x => ∃ y ∈ us ++ [U.bi .enc (.s n) v], x = y.ordr) (.s m) := h
  have hso : (U.bi .enc (.s n) v).ordr = .bi .enc (.s n) v.ordr := by rw [ordr_bi, if_neg (fun h => by cases h.1)]; rfl
  let D := Der fun x => ∃ y ∈ us, x = y.ordr
  have hcl : ClosedP fun u => D u ∨ u = .bi .enc (.s n) v.ordr := fun u hu p hp => by
    rcases hu with hu | rfl
    · left
      obtain ⟨b, ⟨y, hy, rfl⟩, hs⟩ := der_subs hu
      have hnu : ∀ {a : U}, a ∈ subs u → ¬ U.bi .enc (.s n) v.ordr ∈ subs a := fun ha hh => hn y hy (subs_trans hs (subs_trans ha hh))
      refine Der.closed u hu p ?_
      cases u with
      | bi k a b =>
        cases k
        case enc => exact ⟨syn_less (hnu (List.mem_cons_of_mem _ (List.mem_append_left _ (subs_self a)))) hp.1, hp.2⟩
        all_goals exact hp
      | _ => exact hp
    · exact absurd ((show (D (.s n) ∨ U.s n = .bi .enc (.s n) v.ordr) from hp.1).elim id fun e => by cases e) hk
  have := hd (fun u => D u ∨ u = .bi .enc (.s n) v.ordr) (fun u ⟨y, hy, e⟩ => by
    rcases List.mem_append.1 hy with hy | hy
    · exact .inl (Der.base ⟨y, hy, e⟩)
    · rw [List.mem_singleton.1 hy, hso] at e; exact .inr e) hcl
  exact this.elim id fun e => by cases e
theorem opened {us : List U} {n : Int} {v : U} (h : Known2 us (.s n)) : Known2 (us ++ [.bi .enc (.s n) v]) v.ordr := by
  have hso : (U.bi .enc (.s n) v).ordr = .bi .enc (.s n) v.ordr := by rw [ordr_bi, if_neg (fun h => by cases h.1)]; rfl
  refine Syn.of (Der.closed (.bi .enc (.s n) v.ordr) (Der.base ⟨_, List.mem_append_right _ (List.mem_singleton.2 rfl), hso.symm⟩) v.ordr ⟨?_, rfl⟩)
  exact known_mono (fun y hy => List.mem_append_left _ hy) h
open Classical in
theorem TermsSeals_law {xs : List Tm} {n m : Int} {t : Tm} (hx : ∀ t ∈ xs, TOk t) (hn : i64 n) (hm : i64 m) (ht : TOk t) : law29_TermsSeals.f xs n m t = some true := by
  unfold law29_TermsSeals.f
  obtain ⟨b, e, hb⟩ := much_law xs
  obtain ⟨d, e3, hd⟩ := mayR ht
  rw [e, Option.bind_some]
  cases b with
  | true => simp [known_law]
  | false =>
    have hb := hb rfl
    obtain ⟨c, e2, hc⟩ := all_law (by omega) hx
    rw [sized t (by decide) (by decide), e2, e3]
    simp only [Bool.false_eq_true, if_false, Option.bind_some]
    cases c with
    | false => simp [known_law]
    | true =>
      by_cases n0 : n < 0
      · simp [n0, known_law]
      · by_cases m0 : m < 0
        · simp [n0, m0, known_law]
        · by_cases c1 : 300 < szTo t 301
          · simp [n0, m0, c1, known_law]
          · cases d with
            | false => simp [n0, m0, c1, known_law]
            | true =>
              simp only [n0, m0, c1, decide_false, Bool.false_eq_true, if_false, Option.bind_some, Bool.not_true]
              obtain ⟨us, rfl, hus⟩ := hc rfl
              obtain ⟨v, rfl, hv⟩ := hd rfl
              have hul : us.length ≤ 30 := by simpa using hb
              have hvs : v.size ≤ 300 := by have := szTo301 c1; rwa [tsz_u] at this
              have fn : Fit (.s n) := fit_s (by omega) hn
              have fm : Fit (.s m) := fit_s (by omega) hm
              have fs : Fit (.bi .enc (.s n) v) := fit_bi fn.1 hv.1 (by show (1 : Nat) ≤ 300; decide) hvs
              have hso : (U.bi .enc (.s n) v).ordr = .bi .enc (.s n) v.ordr := by rw [ordr_bi, if_neg (fun h => by cases h.1)]; rfl
              have emay : ref29_May.f (Tm.mk 4 0 [Tm.mk 2 n [], v.tm]) = some true := mayR_u fs
              have eord : ref29_Order.f (Tm.fuel (Tm.mk 4 0 [Tm.mk 2 n [], v.tm])) (Tm.mk 4 0 [Tm.mk 2 n [], v.tm]) = some (U.bi .enc (.s n) v.ordr).tm := (rorderd fs.1 (by have := fs.2; omega)).trans (by rw [hso])
              rw [emay]
              simp only [Option.bind_some, Bool.not_true, Bool.false_eq_true, if_false]
              -- one term's parts
              have hin : ∀ (zs : List U), zs.length ≤ 1000000 → (law29_TermsSeals.L1 n v.tm (zs.map U.tm) ((((zs.map U.tm).length : Int)).toNat + 1) 0 = some (.inl ()) ∧ ¬ U.bi .enc (.s n) v.ordr ∈ zs) ∨ law29_TermsSeals.L1 n v.tm (zs.map U.tm) ((((zs.map U.tm).length : Int)).toNat + 1) 0 = some (.inr true) := fun zs hzl => by
                have heq : ∀ z : U, (ref29_Equal.f (Tm.fuel z.tm) z.tm (U.bi .enc (.s n) v.ordr).tm) = some (decide (z = U.bi .enc (.s n) v.ordr)) := fun z => equal_u _ (Nat.le_refl _)
                have := each_loop (xs := zs.map U.tm) (B := Bool) (L := law29_TermsSeals.L1 n v.tm (zs.map U.tm)) (step := fun t => (ref29_Equal.f (Tm.fuel t) t (U.bi .enc (.s n) v.ordr).tm).bind fun q => if q then some (some true) else some none) (by simp; omega) (fun q i r hi hst => ?_) (fun q => ?_) (fun t ht => ?_) ((((zs.map U.tm).length : Int)).toNat + 1) 0 (by omega) (by omega)
                · rcases this with ⟨h1, h2⟩ | ⟨b, h1, x, hx, h2⟩
                  · rw [show ((0 : Nat) : Int) = 0 from rfl] at h1
                    refine .inl ⟨h1, fun hmem => ?_⟩
                    have h3 := h2 _ (by rw [List.drop_zero]; exact List.mem_map.2 ⟨_, hmem, rfl⟩)
                    rw [heq] at h3; simp at h3
                  · rw [show ((0 : Nat) : Int) = 0 from rfl] at h1
                    rw [List.drop_zero] at hx
                    obtain ⟨z, hz, rfl⟩ := List.mem_map.1 hx
                    rw [heq, Option.bind_some] at h2
                    right
                    by_cases ez : z = U.bi .enc (.s n) v.ordr
                    · simp [ez] at h2; subst h2; exact h1
                    · simp [ez] at h2
                · rw [law29_TermsSeals.L1]
                  have c' : (i : Int) < ((zs.map U.tm).length : Int) := by omega
                  simp only [c', decide_true, if_true, nm, Int.toNat_natCast]
                  rw [reqT (show (0 : Int) ≤ (i : Int) by omega), reqT trivial, eord, Option.bind_some]
                  obtain ⟨z, hz, ez⟩ := List.mem_map.1 (tgetD_mem hi)
                  rw [← ez] at hst ⊢
                  rw [heq, Option.bind_some] at hst ⊢
                  cases hq : decide (z = U.bi .enc (.s n) v.ordr) <;> rw [hq] at hst <;> simp at hst <;> subst hst <;> simp [known_law]
                · rw [law29_TermsSeals.L1]; simp
                · obtain ⟨z, hz, rfl⟩ := List.mem_map.1 ht
                  rw [heq, Option.bind_some]
                  split <;> exact ⟨_, rfl⟩
              have hord : ∀ y ∈ us, ref29_Order.f (Tm.fuel y.tm) y.tm = some y.ordr.tm := fun y hy => rorderd (hus y hy).1 (by have := (hus y hy).2; omega)
              have hwalk : ∀ y ∈ us, law29_walk.f (Tm.fuel y.ordr.tm) y.ordr.tm [] = some ((subs y.ordr).map U.tm) := fun y hy => walk_u (Nat.le_refl _) (by have := (hus y hy).2; rw [ordr_size]; simp; omega)
              have hsl : ∀ y ∈ us, (subs y.ordr).length ≤ 1000000 := fun y hy => by rw [subs_len, ordr_size]; have := (hus y hy).2; omega
              have := each_loop (xs := us.map U.tm) (B := Bool) (L := law29_TermsSeals.L0 (us.map U.tm) n v.tm) (step := fun t => (ref29_Order.f (Tm.fuel t) t).bind fun o => (law29_walk.f (Tm.fuel o) o []).bind fun z => onw (law29_TermsSeals.L1 n v.tm z (((z.length : Int)).toNat + 1) 0) (fun _ => some none) (fun r => some (some r))) (by simp; omega) (fun q i r hi hst => ?_) (fun q => ?_) (fun t ht => ?_) ((((us.map U.tm).length : Int)).toNat + 1) 0 (by omega) (by omega)
              · rcases this with ⟨h1, h2⟩ | ⟨b, h1, x, hx, h2⟩
                · rw [show ((0 : Nat) : Int) = 0 from rfl] at h1
                  rw [h1]
                  have hnot : ∀ y ∈ us, ¬ U.bi .enc (.s n) v.ordr ∈ subs y.ordr := fun y hy hmem => by
                    have h3 := h2 y.tm (by rw [List.drop_zero]; exact List.mem_map.2 ⟨y, hy, rfl⟩)
                    rw [hord y hy, Option.bind_some, hwalk y hy, Option.bind_some] at h3
                    rcases hin _ (hsl y hy) with ⟨h4, h5⟩ | h4
                    · exact h5 hmem
                    · rw [h4] at h3; simp [onw] at h3
                  simp only [onw]
                  have eap : us.map U.tm ++ [Tm.mk 4 0 [Tm.mk 2 n [], v.tm]] = (us ++ [U.bi .enc (.s n) v]).map U.tm := by simp [U.tm, K2.num]
                  have hfit : ∀ y ∈ us ++ [U.bi .enc (.s n) v], Fit y := fun y hy => by
                    rcases List.mem_append.1 hy with hy | hy
                    · exact hus y hy
                    · rw [List.mem_singleton.1 hy]; exact fs
                  have k1 : terms_Can.f (Tm.mk 2 n []) (us.map U.tm) = some (decide (Known2 us (.s n))) := Can_p (u := .s n) (by omega) hus fn
                  have k2 : terms_Can.f (Tm.mk 2 m []) (us.map U.tm) = some (decide (Known2 us (.s m))) := Can_p (u := .s m) (by omega) hus fm
                  have k3 : terms_Can.f (Tm.mk 2 m []) ((us ++ [U.bi .enc (.s n) v]).map U.tm) = some (decide (Known2 (us ++ [U.bi .enc (.s n) v]) (.s m))) := Can_p (u := .s m) (by simp; omega) hfit fm
                  have k4 : terms_Can.f v.tm ((us ++ [U.bi .enc (.s n) v]).map U.tm) = some (decide (Known2 (us ++ [U.bi .enc (.s n) v]) v.ordr)) := Can_p (u := v) (by simp; omega) hfit hv
                  rw [reqT (by simp; omega), reqT (by simp; omega), eap, k1, k2, k3, k4]
                  simp only [Option.bind_some]
                  by_cases kn : Known2 us (.s n)
                  · have ko := opened (v := v) kn
                    simp [kn, ko, known_law]
                  · by_cases km : Known2 us (.s m)
                    · have k5 : Known2 (us ++ [U.bi .enc (.s n) v]) (.s m) := known_mono (fun y hy => List.mem_append_left _ hy) km
                      simp [kn, km, k5, known_law]
                    · have k5 : ¬ Known2 (us ++ [U.bi .enc (.s n) v]) (.s m) := fun hh => km (sealed kn hnot hh)
                      simp [kn, km, k5, known_law]
                · rw [show ((0 : Nat) : Int) = 0 from rfl] at h1
                  rw [List.drop_zero] at hx
                  obtain ⟨y, hy, rfl⟩ := List.mem_map.1 hx
                  rw [hord y hy, Option.bind_some, hwalk y hy, Option.bind_some] at h2
                  rcases hin _ (hsl y hy) with ⟨h4, h5⟩ | h4
                  · rw [h4] at h2; simp [onw] at h2
                  · rw [h4] at h2; simp [onw] at h2; subst h2
                    rw [h1]; rfl
              · rw [law29_TermsSeals.L0]
                have c' : (i : Int) < ((us.map U.tm).length : Int) := by omega
                simp only [c', decide_true, if_true, nm, Int.toNat_natCast]
                rw [reqT (show (0 : Int) ≤ (i : Int) by omega), reqT trivial]
                obtain ⟨y, hy, ey⟩ := List.mem_map.1 (tgetD_mem hi)
                rw [← ey] at hst ⊢
                rw [hord y hy, Option.bind_some, hwalk y hy, Option.bind_some] at hst ⊢
                rcases hin _ (hsl y hy) with ⟨h4, h5⟩ | h4
                · simp only [Int.toNat_natCast] at h4 hst
                  rw [h4] at hst ⊢; simp [onw] at hst ⊢; subst hst; rfl
                · simp only [Int.toNat_natCast] at h4 hst
                  rw [h4] at hst ⊢; simp [onw] at hst ⊢; subst hst; rfl
              · rw [law29_TermsSeals.L0]; simp
              · obtain ⟨y, hy, rfl⟩ := List.mem_map.1 ht
                rw [hord y hy, Option.bind_some, hwalk y hy, Option.bind_some]
                rcases hin _ (hsl y hy) with ⟨h4, h5⟩ | h4 <;> rw [h4] <;> exact ⟨_, rfl⟩
end Go.Proofs.YtfbogkhgfaibbaaDoor
