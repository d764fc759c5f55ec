import Derived.Test.YtfbogkhgfaibbaaDoorTmM
import Derived.Test.YtfbogkhgfaibbaaDoorTc1
import Derived.Test.YtfbogkhgfaibbaaDoorTmLn
section
namespace Go.Proofs.YtfbogkhgfaibbaaDoor
open Go Go.HW Go.RowKit
set_option linter.unusedVariables false
set_option linter.unusedSimpArgs false

/-! ### TermsSeals -/
theorem equal_u : ∀ {u : U} (v : U) {k : Nat}, u.tm.depth ≤ k → ref29_Equal.f k u.tm v.tm = some (decide (u = v)) := by
  intro u
  induction u with
  | d n =>
    intro v k hk
    cases k with
    | zero => simp [U.tm, depth_leaf] at hk
    | succ k =>
      show ref29_Equal.F (ref29_Equal.f k) (Tm.mk 1 n []) v.tm = _
      unfold ref29_Equal.F
      cases v with
      | d m => simp only [kind_mk, num_mk, kids_mk, U.tm]; by_cases e : n = m <;> simp [e, nm, ref29_Equal.L0, kids_mk, onw]
      | s m => simp [kind_mk, num_mk, kids_mk, U.tm]
      | un c b => cases c <;> simp [kind_mk, num_mk, kids_mk, U.tm, K1.num]
      | bi c b d => cases c <;> simp [kind_mk, num_mk, kids_mk, U.tm, K2.num]
  | s n =>
    intro v k hk
    cases k with
    | zero => simp [U.tm, depth_leaf] at hk
    | succ k =>
      show ref29_Equal.F (ref29_Equal.f k) (Tm.mk 2 n []) v.tm = _
      unfold ref29_Equal.F
      cases v with
      | d m => simp [kind_mk, num_mk, kids_mk, U.tm]
      | s m => simp only [kind_mk, num_mk, kids_mk, U.tm]; by_cases e : n = m <;> simp [e, nm, ref29_Equal.L0, kids_mk, onw]
      | un c b => cases c <;> simp [kind_mk, num_mk, kids_mk, U.tm, K1.num]
      | bi c b d => cases c <;> simp [kind_mk, num_mk, kids_mk, U.tm, K2.num]
  | un c a ih =>
    intro v k hk
    cases k with
    | zero => rw [U.tm, depth_un] at hk; omega
    | succ k =>
      rw [U.tm, depth_un] at hk
      show ref29_Equal.F (ref29_Equal.f k) (Tm.mk c.num 0 [a.tm]) v.tm = _
      unfold ref29_Equal.F
      cases v with
      | d m => cases c <;> simp [kind_mk, num_mk, kids_mk, U.tm, K1.num]
      | s m => cases c <;> simp [kind_mk, num_mk, kids_mk, U.tm, K1.num]
      | un c2 b =>
        have hb := ih b (k := k) (by omega)
        by_cases e : a = b
        · subst e; cases c <;> cases c2 <;> simp [kind_mk, num_mk, kids_mk, U.tm, K1.num, nm, req, ref29_Equal.L0, onw, hb, wrap1]
        · cases c <;> cases c2 <;> simp [kind_mk, num_mk, kids_mk, U.tm, K1.num, nm, req, ref29_Equal.L0, onw, hb, e, wrap1]
      | bi c2 b d => cases c <;> cases c2 <;> simp [kind_mk, num_mk, kids_mk, U.tm, K1.num, K2.num, nm]
  | bi c a b iha ihb =>
    intro v k hk
    cases k with
    | zero => rw [U.tm] at hk; have := depth_bi c.num 0 a.tm b.tm; omega
    | succ k =>
      rw [U.tm] at hk
      have hd := depth_bi c.num 0 a.tm b.tm
      show ref29_Equal.F (ref29_Equal.f k) (Tm.mk c.num 0 [a.tm, b.tm]) v.tm = _
      unfold ref29_Equal.F
      cases v with
      | d m => cases c <;> simp [kind_mk, num_mk, kids_mk, U.tm, K2.num]
      | s m => cases c <;> simp [kind_mk, num_mk, kids_mk, U.tm, K2.num]
      | un c2 d => cases c <;> cases c2 <;> simp [kind_mk, num_mk, kids_mk, U.tm, K1.num, K2.num, nm]
      | bi c2 d g =>
        have h1 := iha d (k := k) (by omega)
        have h2 := ihb g (k := k) (by omega)
        by_cases e : a = d
        · subst e
          by_cases e2 : b = g
          · subst e2; cases c <;> cases c2 <;> simp [kind_mk, num_mk, kids_mk, U.tm, K2.num, nm, req, ref29_Equal.L0, onw, h1, h2, wrap1, wrap2]
          · cases c <;> cases c2 <;> simp [kind_mk, num_mk, kids_mk, U.tm, K2.num, nm, req, ref29_Equal.L0, onw, h1, h2, e2, wrap1, wrap2]
        · cases c <;> cases c2 <;> simp [kind_mk, num_mk, kids_mk, U.tm, K2.num, nm, req, ref29_Equal.L0, onw, h1, e, wrap1, wrap2]
end Go.Proofs.YtfbogkhgfaibbaaDoor
end

section
namespace Go.Proofs.YtfbogkhgfaibbaaDoor
open Go Go.HW Go.RowKit
set_option linter.unusedVariables false
set_option linter.unusedSimpArgs false

/-! ### the reference's in, Learn, made at terms that fit -/
theorem in_u {K : List U} (hl : K.length ≤ 1000000) (u : U) : ref29_in.f u.tm (K.map U.tm) = some (decide (u ∈ K)) := by
  have heq : ∀ z : U, (ref29_Equal.f (Tm.fuel u.tm) u.tm z.tm) = some (decide (u = z)) := fun z => equal_u _ (Nat.le_refl _)
  unfold ref29_in.f
  have := each_loop (xs := K.map U.tm) (B := Bool) (L := ref29_in.L0 u.tm (K.map U.tm)) (step := fun t => (ref29_Equal.f (Tm.fuel u.tm) u.tm t).bind fun q => if q then some (some true) else some none) (by simp; omega) (fun q i r hi hst => ?_) (fun q => ?_) (fun t ht => ?_) ((((K.map U.tm).length : Int)).toNat + 1) 0 (by omega) (by omega)
  · rcases this with ⟨h1, h2⟩ | ⟨b, h1, x, hx, h2⟩
    · rw [show ((0 : Nat) : Int) = 0 from rfl] at h1
      rw [h1]
      have hn : ¬ u ∈ K := fun hm => by
        have h3 := h2 u.tm (by rw [List.drop_zero]; exact List.mem_map.2 ⟨u, hm, rfl⟩)
        rw [heq] at h3; simp at h3
      simp [onw, hn]
    · rw [show ((0 : Nat) : Int) = 0 from rfl] at h1
      rw [List.drop_zero] at hx
      obtain ⟨z, hz, rfl⟩ := List.mem_map.1 hx
      rw [heq, Option.bind_some] at h2
      by_cases ez : u = z
      · subst ez
        simp at h2; subst h2
        rw [h1]; simp [onw, hz]
      · simp [ez] at h2
  · rw [ref29_in.L0]
    have c' : (i : Int) < ((K.map U.tm).length : Int) := by omega
    simp only [c', decide_true, if_true, nm, Int.toNat_natCast]
    rw [reqT (show (0 : Int) ≤ (i : Int) by omega), reqT trivial]
    obtain ⟨z, hz, ez⟩ := List.mem_map.1 (tgetD_mem hi)
    rw [← ez] at hst ⊢
    rw [heq, Option.bind_some] at hst ⊢
    cases hq : decide (u = z) <;> rw [hq] at hst <;> simp at hst <;> subst hst <;> simp
  · rw [ref29_in.L0]; simp
  · obtain ⟨z, hz, rfl⟩ := List.mem_map.1 ht
    rw [heq, Option.bind_some]
    split <;> exact ⟨_, rfl⟩
theorem rlearn_L0 {us : List U} (h : ∀ u ∈ us, Fit u) (hl : us.length ≤ 500) : ∀ (k i : Nat) (K : List U), us.length - i < k → i ≤ us.length → K.length ≤ i → ref29_Learn.L0 (us.map U.tm) k (K.map U.tm) (i : Int) = some ((baseU K (us.drop i)).map U.tm)
  | 0, i, K, hk, _, _ => by omega
  | k + 1, i, K, hk, hi, hK => by
    rw [ref29_Learn.L0]
    by_cases c : i < us.length
    · have c' : (i : Int) < ((us.map U.tm).length : Int) := by simp; omega
      have hf := h _ (List.getElem_mem c)
      have hg : (us.map U.tm).getD i Tm.dflt = (us[i]).tm := by simp [c]
      simp only [c', decide_true, if_true, nm, Int.toNat_natCast]
      rw [reqT (show (0 : Int) ≤ (i : Int) by omega), reqT trivial, hg, rorderd hf.1 (by have := hf.2; omega), Option.bind_some, in_u (by omega), Option.bind_some, wrap_succ (by omega), List.drop_eq_getElem_cons c, baseU]
      by_cases hm : (us[i]).ordr ∈ K
      · rw [if_pos hm]
        simp only [hm, decide_true, Bool.not_true, Bool.false_eq_true, if_false, Option.bind_some]
        exact rlearn_L0 h hl k (i + 1) K (by omega) (by omega) (by omega)
      · rw [if_neg hm]
        simp only [hm, decide_false, Bool.not_false, if_true]
        rw [reqT (by simp; omega), Option.bind_some]
        have := rlearn_L0 h hl k (i + 1) (K ++ [(us[i]).ordr]) (by omega) (by omega) (by simp; omega)
        rw [← this]; simp
    · have c' : ¬ (i : Int) < ((us.map U.tm).length : Int) := by simp; omega
      simp only [c', decide_false, Bool.false_eq_true, if_false]
      rw [List.drop_eq_nil_of_le (by omega), baseU]
end Go.Proofs.YtfbogkhgfaibbaaDoor
end

section
namespace Go.Proofs.YtfbogkhgfaibbaaDoor
open Go Go.HW Go.RowKit
set_option linter.unusedVariables false
set_option linter.unusedSimpArgs false

theorem made_u {K : List U} (hl : K.length ≤ 1000000) : ∀ {u : U} {k : Nat}, u.tm.depth ≤ k → ref29_made.f k u.tm (K.map U.tm) = some (synB K u) := by
  intro u
  induction u with
  | d n =>
    intro k hk
    cases k with
    | zero => simp [U.tm, depth_leaf] at hk
    | succ k =>
      show ref29_made.F (ref29_made.f k) (Tm.mk 1 n []) (K.map U.tm) = _
      unfold ref29_made.F
      simp only [kind_mk]
      rfl
  | s n =>
    intro k hk
    cases k with
    | zero => simp [U.tm, depth_leaf] at hk
    | succ k =>
      have hin := in_u hl (.s n)
      simp only [U.tm] at hin
      show ref29_made.F (ref29_made.f k) (Tm.mk 2 n []) (K.map U.tm) = _
      unfold ref29_made.F
      simp only [kind_mk, hin]
      by_cases hm : U.s n ∈ K <;> simp [hm, synB]
  | un c a ih =>
    intro k hk
    cases k with
    | zero => rw [U.tm, depth_un] at hk; omega
    | succ k =>
      rw [U.tm, depth_un] at hk
      have ha := ih (k := k) (by omega)
      have hin := in_u hl (.un c a)
      simp only [U.tm] at hin
      show ref29_made.F (ref29_made.f k) (Tm.mk c.num 0 [a.tm]) (K.map U.tm) = _
      unfold ref29_made.F
      have c1 : (c.num == 1) = false := by cases c <;> decide
      have c2 : (c.num == 2) = false := by cases c <;> decide
      have c8 : (c.num == 8) = false := by cases c <;> decide
      have hL : ref29_made.L0 (ref29_made.f k) (Tm.mk c.num 0 [a.tm]) (K.map U.tm) (((([a.tm] : List Tm).length : Int)).toNat + 1) 0 = some (if synB K a then .inl () else .inr false) := by
        show ref29_made.L0 (ref29_made.f k) (Tm.mk c.num 0 [a.tm]) (K.map U.tm) 2 0 = _
        cases hq : synB K a <;> simp [ref29_made.L0, nm, req, kids_mk, ha, hq, wrap1]
      simp only [kind_mk, kids_mk, hin, c1, c2, c8, hL]
      by_cases hm : U.un c a ∈ K <;> cases hq : synB K a <;> simp [hm, synB, hq, onw]
  | bi c a b iha ihb =>
    intro k hk
    cases k with
    | zero => rw [U.tm] at hk; have := depth_bi c.num 0 a.tm b.tm; omega
    | succ k =>
      rw [U.tm] at hk
      have hd := depth_bi c.num 0 a.tm b.tm
      have ha := iha (k := k) (by omega)
      have hb := ihb (k := k) (by omega)
      have hin := in_u hl (.bi c a b)
      simp only [U.tm] at hin
      show ref29_made.F (ref29_made.f k) (Tm.mk c.num 0 [a.tm, b.tm]) (K.map U.tm) = _
      unfold ref29_made.F
      have c1 : (c.num == 1) = false := by cases c <;> decide
      have c2 : (c.num == 2) = false := by cases c <;> decide
      by_cases hc : c = .shared
      · subst hc
        have c8 : (K2.shared.num == 8) = true := by decide
        have pa : ref29_in.f (Tm.mk 3 0 [a.tm]) (K.map U.tm) = some (decide (U.un .pub a ∈ K)) := in_u hl (.un .pub a)
        have pb : ref29_in.f (Tm.mk 3 0 [b.tm]) (K.map U.tm) = some (decide (U.un .pub b ∈ K)) := in_u hl (.un .pub b)
        simp only [kind_mk, kids_mk, hin, c1, c2, c8, req, nm]
        rw [show ([a.tm, b.tm] : List Tm).getD ((0 : Int).toNat) Tm.dflt = a.tm from rfl, show ([a.tm, b.tm] : List Tm).getD ((1 : Int).toNat) Tm.dflt = b.tm from rfl, ha, hb, pa, pb]
        by_cases hm : U.bi .shared a b ∈ K <;> cases hq : synB K a <;> cases hr : synB K b <;> by_cases h1 : U.un .pub a ∈ K <;> by_cases h2 : U.un .pub b ∈ K <;> simp [hm, synB, hq, hr, h1, h2]
      · have c8 : (c.num == 8) = false := by cases c <;> first | decide | exact absurd rfl hc
        have hL : ref29_made.L0 (ref29_made.f k) (Tm.mk c.num 0 [a.tm, b.tm]) (K.map U.tm) (((([a.tm, b.tm] : List Tm).length : Int)).toNat + 1) 0 = some (if synB K a && synB K b then .inl () else .inr false) := by
          show ref29_made.L0 (ref29_made.f k) (Tm.mk c.num 0 [a.tm, b.tm]) (K.map U.tm) 3 0 = _
          cases hq : synB K a <;> cases hr : synB K b <;> simp [ref29_made.L0, nm, req, kids_mk, ha, hb, hq, hr, wrap1, wrap2]
        have e2 : synB K (.bi c a b) = (decide (U.bi c a b ∈ K) || (synB K a && synB K b)) := by cases c <;> first | rfl | exact absurd rfl hc
        simp only [kind_mk, kids_mk, hin, c1, c2, c8, hL, e2]
        by_cases hm : U.bi c a b ∈ K <;> cases hq : synB K a <;> cases hr : synB K b <;> simp [hm, hq, hr, onw]
end Go.Proofs.YtfbogkhgfaibbaaDoor
end

section
namespace Go.Proofs.YtfbogkhgfaibbaaDoor
open Go Go.HW Go.RowKit
set_option linter.unusedVariables false
set_option linter.unusedSimpArgs false

/-- these beside, where they are not there yet; has anything come? -/
def addU (K : List U) (f : Bool) : List U → List U × Bool
  | [] => (K, f)
  | p :: ps => if p ∈ K then addU K f ps else addU (K ++ [p]) true ps
theorem in_app {K : List U} (hl : K.length ≤ 999999) (a b : U) : ref29_in.f b.tm (K.map U.tm ++ [a.tm]) = some (decide (b ∈ K ++ [a])) := by
  have := in_u (K := K ++ [a]) (by simp; omega) b
  rwa [List.map_append] at this
theorem L3_u {K : List U} (hl : K.length ≤ 900000) (f : Bool) (a b : U) : ref29_Learn.L3 (U.bi .pair a b).tm 100000 (K.map U.tm) f 0 = some ((addU K f [a, b]).1.map U.tm, (addU K f [a, b]).2) := by
  show ref29_Learn.L3 (Tm.mk 7 0 [a.tm, b.tm]) (99997 + 1 + 1 + 1) (K.map U.tm) f 0 = _
  have h1 := in_u (K := K) (by omega) a
  have h2 := in_u (K := K) (by omega) b
  have h3 := in_app (K := K) (by omega) a b
  have q1 : K.length ≤ 1099511627775 := by omega
  have q2 : K.length ≤ 1099511627774 := by omega
  by_cases ha : a ∈ K
  · by_cases hb : b ∈ K
    · simp [ref29_Learn.L3, nm, req, kids_mk, h1, h2, ha, hb, wrap1, wrap2, addU]
    · simp [ref29_Learn.L3, nm, req, kids_mk, h1, h2, ha, hb, wrap1, wrap2, addU, q1]
  · by_cases hb : b ∈ K ++ [a]
    · rw [decide_eq_true hb] at h3
      have hb' : b ∈ K ∨ b = a := by simpa using hb
      simp [ref29_Learn.L3, nm, req, kids_mk, h1, h3, ha, wrap1, wrap2, addU, q1, hb']
    · rw [decide_eq_false hb] at h3
      have hb' : ¬ b ∈ K ∧ ¬ b = a := by simpa using hb
      simp [ref29_Learn.L3, nm, req, kids_mk, h1, h3, ha, wrap1, wrap2, addU, q1, q2, hb'.1, hb'.2]
theorem L4_u {K : List U} (hl : K.length ≤ 900000) (f : Bool) (a b : U) (c : Int) : ref29_Learn.L4 (Tm.mk c 0 [a.tm, b.tm]) ((((Tree.kids (Tm.mk c 0 [a.tm, b.tm])).drop (1 : Int).toNat).length : Int).toNat + 1) (K.map U.tm) f 0 = some ((addU K f [b]).1.map U.tm, (addU K f [b]).2) := by
  show ref29_Learn.L4 (Tm.mk c 0 [a.tm, b.tm]) (0 + 1 + 1) (K.map U.tm) f 0 = _
  have h2 := in_u (K := K) (by omega) b
  by_cases hb : b ∈ K
  · simp [ref29_Learn.L4, nm, req, kids_mk, h2, hb, wrap1, addU]
  · have : K.length ≤ 1099511627775 := by omega
    simp [ref29_Learn.L4, nm, req, kids_mk, h2, hb, wrap1, addU, this]
theorem L5_u {K : List U} (hl : K.length ≤ 900000) (f : Bool) (a b : U) (c : Int) : ref29_Learn.L5 (Tm.mk c 0 [a.tm, b.tm]) ((((Tree.kids (Tm.mk c 0 [a.tm, b.tm])).drop (1 : Int).toNat).length : Int).toNat + 1) (K.map U.tm) f 0 = some ((addU K f [b]).1.map U.tm, (addU K f [b]).2) := by
  show ref29_Learn.L5 (Tm.mk c 0 [a.tm, b.tm]) (0 + 1 + 1) (K.map U.tm) f 0 = _
  have h2 := in_u (K := K) (by omega) b
  by_cases hb : b ∈ K
  · simp [ref29_Learn.L5, nm, req, kids_mk, h2, hb, wrap1, addU]
  · have : K.length ≤ 1099511627775 := by omega
    simp [ref29_Learn.L5, nm, req, kids_mk, h2, hb, wrap1, addU, this]
theorem L6_u (K : List Tm) (f : Bool) : ref29_Learn.L6 ((0 : Int).toNat + 1) K f 0 = some (K, f) := by
  show ref29_Learn.L6 (0 + 1) K f 0 = _
  simp [ref29_Learn.L6, nm]
theorem L7_u (K : List Tm) (f : Bool) : ref29_Learn.L7 ((0 : Int).toNat + 1) K f 0 = some (K, f) := by
  show ref29_Learn.L7 (0 + 1) K f 0 = _
  simp [ref29_Learn.L7, nm]
end Go.Proofs.YtfbogkhgfaibbaaDoor
end

section
namespace Go.Proofs.YtfbogkhgfaibbaaDoor
open Go Go.HW Go.RowKit
set_option linter.unusedVariables false
set_option linter.unusedSimpArgs false

theorem anB_mono {K K' : List U} (h : ∀ u ∈ K, u ∈ K') {u p : U} (hp : p ∈ anB K u) : p ∈ anB K' u := anB_iff.2 ((anB_iff.1 hp).mono h)
theorem addU_KG {B : List U} : ∀ {ps K : List U} {f : Bool}, KG B K → (∀ p ∈ ps, ∃ u ∈ K, p ∈ anB K u) → KG B (addU K f ps).1
  | [], K, f, h, _ => h
  | p :: ps, K, f, h, hp => by
    unfold addU
    split
    · exact addU_KG h fun q hq => hp q (List.mem_cons_of_mem _ hq)
    · rename_i hn
      obtain ⟨u, hu, hpu⟩ := hp p List.mem_cons_self
      refine addU_KG (h.step hu hpu hn) fun q hq => ?_
      obtain ⟨z, hz, hqz⟩ := hp q (List.mem_cons_of_mem _ hq)
      exact ⟨z, List.mem_append_left _ hz, anB_mono (fun y hy => List.mem_append_left _ hy) hqz⟩
theorem addU_len : ∀ {ps K : List U} {f : Bool}, K.length ≤ (addU K f ps).1.length ∧ ((addU K f ps).2 = true → f = true ∨ K.length < (addU K f ps).1.length)
  | [], K, f => ⟨Nat.le_refl _, .inl⟩
  | p :: ps, K, f => by
    unfold addU
    split
    · exact addU_len
    · have h := addU_len (ps := ps) (K := K ++ [p]) (f := true)
      have h1 := h.1
      simp only [List.length_append, List.length_cons, List.length_nil] at h1
      exact ⟨by omega, fun _ => .inr (by omega)⟩
theorem addU_true : ∀ {ps K : List U}, (addU K true ps).2 = true
  | [], K => rfl
  | p :: ps, K => by unfold addU; split <;> exact addU_true
theorem addU_false : ∀ {ps K : List U} {f : Bool}, (addU K f ps).2 = false → (addU K f ps).1 = K ∧ f = false ∧ ∀ p ∈ ps, p ∈ K
  | [], K, f, h => ⟨rfl, h, fun p hp => by cases hp⟩
  | p :: ps, K, f, h => by
    unfold addU at h ⊢
    split at h
    · rename_i hp
      rw [if_pos hp]
      obtain ⟨h1, h2, h3⟩ := addU_false h
      exact ⟨h1, h2, fun q hq => (List.mem_cons.1 hq).elim (fun e => e ▸ hp) (h3 q)⟩
    · rw [addU_true] at h; cases h
/-- one pass -/
def passU : Nat → List U → Bool → Nat → List U × Bool
  | 0, K, f, _ => (K, f)
  | k + 1, K, f, i => match K[i]? with
    | none => (K, f)
    | some u => passU k (addU K f (anB K u)).1 (addU K f (anB K u)).2 (i + 1)
theorem L2_step {K : List U} {f : Bool} {i k : Nat} {u : U} (hi : i < K.length) (hl : K.length ≤ 900000) (hu : K[i] = u) : ref29_Learn.L2 (k + 1) (K.map U.tm) f (i : Int) = ref29_Learn.L2 k ((addU K f (anB K u)).1.map U.tm) (addU K f (anB K u)).2 ((i + 1 : Nat) : Int) := by
  have c' : (i : Int) < ((K.map U.tm).length : Int) := by simp; omega
  have hgd : (K.map U.tm).getD i Tm.dflt = u.tm := by simp [hi, hu]
  rw [ref29_Learn.L2]
  refine (if_pos (by simpa using hi)).trans ?_
  refine (reqT (show (0 : Int) ≤ (i : Int) by omega)).trans ?_
  refine (reqT c').trans ?_
  rw [wrap_succ (by omega)]
  show (nm ((K.map U.tm).getD i Tm.dflt) _) = _
  simp only [nm, Int.toNat_natCast, hgd]
  have e0 : ∀ u : U, anB K u = [] → addU K f (anB K u) = (K, f) := fun u h => by rw [h]; rfl
  cases u with
  | d n =>
    rw [e0 _ rfl]
    simp only [U.tm, kind_mk, show ((1 : Int) == 7) = false from rfl, show ((1 : Int) == 5) = false from rfl, show ((1 : Int) == 4) = false from rfl, Bool.false_eq_true, if_false, L7_u, Option.bind_some]
  | s n =>
    rw [e0 _ rfl]
    simp only [U.tm, kind_mk, show ((2 : Int) == 7) = false from rfl, show ((2 : Int) == 5) = false from rfl, show ((2 : Int) == 4) = false from rfl, Bool.false_eq_true, if_false, L7_u, Option.bind_some]
  | un c a =>
    rw [e0 _ rfl]
    have h7 : (c.num == 7) = false := by cases c <;> rfl
    have h5 : (c.num == 5) = false := by cases c <;> rfl
    have h4 : (c.num == 4) = false := by cases c <;> rfl
    simp only [U.tm, kind_mk, h7, h5, h4, Bool.false_eq_true, if_false, L7_u, Option.bind_some]
  | bi c a b =>
    cases c
    case pair =>
      have h := L3_u (K := K) hl f a b
      simp only [U.tm, K2.num] at h
      simp only [U.tm, K2.num, kind_mk, show ((7 : Int) == 7) = true from rfl, if_true, h, Option.bind_some, anB]
    case sign =>
      have h := L4_u (K := K) hl f a b 5
      simp only [U.tm, K2.num, kind_mk, show ((5 : Int) == 7) = false from rfl, show ((5 : Int) == 5) = true from rfl, Bool.false_eq_true, if_false, if_true, anB]
      refine (reqT (show (1 : Int) ≤ ((Tree.kids (Tm.mk 5 0 [a.tm, b.tm])).length : Int) from (by decide : (1 : Int) ≤ 2))).trans ?_
      exact congrArg (fun z => Option.bind z fun x => ref29_Learn.L2 k x.fst x.snd ((i + 1 : Nat) : Int)) h
    case enc =>
      have h := L5_u (K := K) hl f a b 4
      have hm := made_u (K := K) (by omega) (u := a) (k := Tm.fuel a.tm) (Nat.le_refl _)
      simp only [U.tm, K2.num, kind_mk, show ((4 : Int) == 7) = false from rfl, show ((4 : Int) == 5) = false from rfl, show ((4 : Int) == 4) = true from rfl, Bool.false_eq_true, if_false, if_true, anB]
      refine (reqT (show (0 : Int) < ((Tree.kids (Tm.mk 4 0 [a.tm, b.tm])).length : Int) from (by decide : (0 : Int) < 2))).trans ?_
      show (ref29_made.f (Tm.fuel a.tm) a.tm (K.map U.tm)).bind _ = _
      rw [hm, Option.bind_some]
      cases hq : synB K a with
      | true =>
        simp only [if_true]
        refine (reqT (show (1 : Int) ≤ ((Tree.kids (Tm.mk 4 0 [a.tm, b.tm])).length : Int) from (by decide : (1 : Int) ≤ 2))).trans ?_
        exact congrArg (fun z => Option.bind z fun x => ref29_Learn.L2 k x.fst x.snd ((i + 1 : Nat) : Int)) h
      | false =>
        simp only [Bool.false_eq_true, if_false, L6_u, Option.bind_some]
        rfl
    case mac =>
      rw [e0 _ rfl]
      simp only [U.tm, K2.num, kind_mk, show ((6 : Int) == 7) = false from rfl, show ((6 : Int) == 5) = false from rfl, show ((6 : Int) == 4) = false from rfl, Bool.false_eq_true, if_false, L7_u, Option.bind_some]
    case shared =>
      rw [e0 _ rfl]
      simp only [U.tm, K2.num, kind_mk, show ((8 : Int) == 7) = false from rfl, show ((8 : Int) == 5) = false from rfl, show ((8 : Int) == 4) = false from rfl, Bool.false_eq_true, if_false, L7_u, Option.bind_some]
theorem L2_u {B : List U} (hm : (univ B).length ≤ 90000) : ∀ (k : Nat) (K : List U) (f : Bool) (i : Nat), KG B K → i ≤ (univ B).length → (univ B).length - i < k → ref29_Learn.L2 k (K.map U.tm) f (i : Int) = some ((passU k K f i).1.map U.tm, (passU k K f i).2)
  | 0, K, f, i, hg, hi, hk => by omega
  | k + 1, K, f, i, hg, hi, hk => by
    have hl := hg.len
    by_cases c : i < K.length
    · have hu : K[i] ∈ K := List.getElem_mem c
      have hnext := L2_u hm k (addU K f (anB K K[i])).1 (addU K f (anB K K[i])).2 (i + 1) (addU_KG hg fun p hp => ⟨_, hu, hp⟩) (by omega) (by omega)
      rw [L2_step c (by omega) rfl, hnext, passU, List.getElem?_eq_getElem c]
    · have c' : ¬ (i : Int) < ((K.map U.tm).length : Int) := by simp; omega
      rw [ref29_Learn.L2, passU]
      simp only [c', decide_false, Bool.false_eq_true, if_false]
      rw [List.getElem?_eq_none (by omega)]
theorem passU_KG {B : List U} : ∀ {k : Nat} {K : List U} {f : Bool} {i : Nat}, KG B K → KG B (passU k K f i).1
  | 0, K, f, i, h => h
  | k + 1, K, f, i, h => by
    rw [passU]
    cases hq : K[i]? with
    | none => exact h
    | some u => exact passU_KG (addU_KG h fun p hp => ⟨u, List.mem_of_getElem? hq, hp⟩)
theorem passU_len : ∀ {k : Nat} {K : List U} {f : Bool} {i : Nat}, K.length ≤ (passU k K f i).1.length ∧ ((passU k K f i).2 = true → f = true ∨ K.length < (passU k K f i).1.length)
  | 0, K, f, i => ⟨Nat.le_refl _, .inl⟩
  | k + 1, K, f, i => by
    rw [passU]
    cases hq : K[i]? with
    | none => exact ⟨Nat.le_refl _, .inl⟩
    | some u =>
      have h1 := addU_len (ps := anB K u) (K := K) (f := f)
      have h2 := passU_len (k := k) (K := (addU K f (anB K u)).1) (f := (addU K f (anB K u)).2) (i := i + 1)
      refine ⟨Nat.le_trans h1.1 h2.1, fun h => ?_⟩
      rcases h2.2 h with h | h
      · exact (h1.2 h).imp id fun h => Nat.lt_of_lt_of_le h h2.1
      · exact .inr (Nat.lt_of_le_of_lt h1.1 h)
theorem passU_true : ∀ {k : Nat} {K : List U} {i : Nat}, (passU k K true i).2 = true
  | 0, K, i => rfl
  | k + 1, K, i => by
    rw [passU]
    cases hq : K[i]? with
    | none => rfl
    | some u => show (passU k _ (addU K true (anB K u)).2 (i + 1)).2 = true; rw [addU_true]; exact passU_true
theorem passU_false : ∀ {k : Nat} {K : List U} {i : Nat}, K.length - i < k → (passU k K false i).2 = false → (passU k K false i).1 = K ∧ ∀ (j : Nat) u, i ≤ j → K[j]? = some u → ∀ p ∈ anB K u, p ∈ K
  | 0, K, i, hk, _ => by omega
  | k + 1, K, i, hk, h => by
    rw [passU] at h ⊢
    cases hq : K[i]? with
    | none => exact ⟨rfl, fun j u hj hu => by have := List.getElem?_eq_none_iff.1 hq; rw [List.getElem?_eq_none (by omega)] at hu; cases hu⟩
    | some u =>
      have hlt := (List.getElem?_eq_some_iff.1 hq).1
      rw [hq] at h
      simp only at h
      cases hf : (addU K false (anB K u)).2 with
      | true => rw [hf, passU_true] at h; cases h
      | false =>
        obtain ⟨a1, _, a3⟩ := addU_false hf
        rw [hf, a1] at h
        show (passU k (addU K false (anB K u)).1 (addU K false (anB K u)).2 (i + 1)).1 = K ∧ _
        rw [hf, a1]
        obtain ⟨b1, b2⟩ := passU_false (by omega) h
        refine ⟨b1, fun j v hj hv p hp => ?_⟩
        rcases Nat.lt_or_ge i j with c | c
        · exact b2 j v c hv p hp
        · obtain rfl : i = j := by omega
          rw [hq] at hv; cases hv; exact a3 p hp
theorem L1_u {B : List U} (hm : (univ B).length ≤ 90000) : ∀ (k : Nat) (K : List U), KG B K → (univ B).length - K.length + 1 < k → ∃ K', ref29_Learn.L1 k (K.map U.tm) true = some (K'.map U.tm) ∧ KG B K' ∧ ClosedP (· ∈ K')
  | 0, K, hg, hk => by omega
  | k + 1, K, hg, hk => by
    have hl := hg.len
    have h2 := L2_u hm 100000 K false 0 hg (Nat.zero_le _) (by omega)
    have hk2 : KG B (passU 100000 K false 0).1 := passU_KG hg
    rw [ref29_Learn.L1]
    rw [if_pos rfl, show (0 : Int) = ((0 : Nat) : Int) from rfl, h2, Option.bind_some]
    show ∃ K', ref29_Learn.L1 k ((passU 100000 K false 0).1.map U.tm) (passU 100000 K false 0).2 = _ ∧ _
    cases hq : (passU 100000 K false 0).2 with
    | true =>
      have h3 := (passU_len (k := 100000) (K := K) (f := false) (i := 0)).2 hq
      have h4 := hk2.len
      refine L1_u hm k _ hk2 ?_
      rcases h3 with h3 | h3
      · cases h3
      · omega
    | false =>
      obtain ⟨a1, a2⟩ := passU_false (k := 100000) (K := K) (i := 0) (by omega) hq
      rw [a1]
      refine ⟨K, ?_, hg, fun u hu p hp => ?_⟩
      · obtain ⟨q, rfl⟩ : ∃ q, k = q + 1 := ⟨k - 1, by omega⟩
        rw [ref29_Learn.L1]; rfl
      · obtain ⟨j, hj⟩ := List.getElem?_of_mem hu
        exact a2 j u (Nat.zero_le _) hj p (anB_iff.2 hp)
end Go.Proofs.YtfbogkhgfaibbaaDoor
end

section
namespace Go.Proofs.YtfbogkhgfaibbaaDoor
open Go Go.HW Go.RowKit
set_option linter.unusedVariables false
set_option linter.unusedSimpArgs false

theorem synB_congr {K K' : List U} (h : ∀ u, u ∈ K ↔ u ∈ K') (u : U) : synB K u = synB K' u := by
  have e : (fun x => x ∈ K) = (fun x => x ∈ K') := funext fun x => propext (h x)
  have : synB K u = true ↔ synB K' u = true := by rw [synB_iff, synB_iff, e]
  cases h1 : synB K u <;> cases h2 : synB K' u <;> simp [h1, h2] at this ⊢
theorem rlearn_u {us : List U} (h : ∀ u ∈ us, Fit u) (hl : us.length ≤ 30) : ∃ K : List U, ref29_Learn.f (us.map U.tm) = some (K.map U.tm) ∧ K.Perm (learnU us) := by
  have hb : (baseU [] us).length ≤ 30 := by
    have := baseU_len (us := us) (K := [])
    simp at this; omega
  have hm := univ_len (base_ok h)
  obtain ⟨K, e, hg, hc⟩ := L1_u (B := baseU [] us) (by omega) 100000 (baseU [] us) (baseU_KG us) (by omega)
  refine ⟨K, ?_, ?_⟩
  · unfold ref29_Learn.f
    have h0 := rlearn_L0 h (by omega) (((us.map U.tm).length : Int).toNat + 1) 0 [] (by simp) (Nat.zero_le _) (Nat.le_refl _)
    rw [List.drop_zero] at h0
    show Option.bind (ref29_Learn.L0 (us.map U.tm) (((us.map U.tm).length : Int).toNat + 1) (([] : List U).map U.tm) ((0 : Nat) : Int)) _ = _
    rw [h0, Option.bind_some, e]; rfl
  · have hl := learnU_ok us
    exact hg.perm hc hl.1 hl.2
theorem less_lt : ∀ {a b : List UInt8}, lessL a b = true → a < b
  | [], [], h => by cases h
  | [], _ :: _, h => List.Lex.nil
  | _ :: _, [], h => by cases h
  | x :: a, y :: b, h => by
    unfold lessL at h
    simp only [Op.bytesLess, Bool.or_eq_true, Bool.and_eq_true, decide_eq_true_eq, beq_iff_eq] at h
    rcases h with h | ⟨rfl, h⟩
    · exact List.Lex.rel h
    · exact List.Lex.cons (less_lt (a := a) (b := b) h)
theorem le_less {a b : List UInt8} (h : a ≤ b) (hn : a ≠ b) : lessL a b = true := by
  rcases less_tri a b with h1 | h1 | h1
  · exact h1
  · exact absurd h1 hn
  · exact absurd (less_lt h1) (List.not_lt.2 h)
theorem learnS_up {us : List U} (h : ∀ u ∈ us, Fit u) {i : Nat} (hi : i + 1 < (learnS us).length) : lessL ((learnS us)[i]'(by omega)).txt ((learnS us)[i + 1]).txt = true := by
  have hs := List.pairwise_mergeSort (le := fun x y : U => decide (x.txt ≤ y.txt)) (fun a b c h1 h2 => by
    simp only [decide_eq_true_eq] at *; exact List.le_trans h1 h2) (fun a b => by
    simp only [Bool.or_eq_true, decide_eq_true_eq]; exact List.le_total _ _) (learnU us)
  have h1 := List.pairwise_iff_getElem.1 hs i (i + 1) (by exact Nat.lt_of_succ_lt hi) hi (by omega)
  simp only [decide_eq_true_eq] at h1
  refine le_less h1 fun e => ?_
  have hm : ∀ (j : Nat) (hj : j < (learnS us).length), (learnS us)[j].ok := fun j hj => (learn_fit h ((learnS_perm us).mem_iff.1 (List.getElem_mem hj))).1
  have e2 := txt_inj (hm i (by omega)) (hm (i + 1) hi) e
  have hn : (learnS us).Nodup := (learnS_perm us).nodup_iff.2 (learnU_ok us).1.nodup
  have := List.pairwise_iff_getElem.1 hn i (i + 1) (by omega) hi (by omega)
  exact this e2
end Go.Proofs.YtfbogkhgfaibbaaDoor
end

section
namespace Go.Proofs.YtfbogkhgfaibbaaDoor
open Go Go.HW Go.RowKit
set_option linter.unusedVariables false
set_option linter.unusedSimpArgs false

theorem tl_L1 {X W : List U} (hW : W.length ≤ 1000000) {i : Nat} (hi : i < X.length) : ∀ (k j : Nat) (x : Bool), W.length - j < k → j ≤ W.length → law29_TermsLearns.L1 (X.map U.tm) (W.map U.tm) (i : Int) k x (j : Int) = some (x || decide (X[i] ∈ W.drop j))
  | 0, j, x, hk, _ => by omega
  | k + 1, j, x, hk, hj => by
    rw [law29_TermsLearns.L1]
    by_cases c : j < W.length
    · have c' : (j : Int) < ((W.map U.tm).length : Int) := by simp; omega
      have ci : (i : Int) < ((X.map U.tm).length : Int) := by simp; omega
      have hg : (W.map U.tm).getD j Tm.dflt = (W[j]).tm := by simp [c]
      have hgi : (X.map U.tm).getD i Tm.dflt = (X[i]).tm := by simp [hi]
      have heq : ref29_Equal.f (Tm.fuel (X[i]).tm) (X[i]).tm (W[j]).tm = some (decide (X[i] = W[j])) := equal_u _ (Nat.le_refl _)
      refine (if_pos (by simpa using c)).trans ?_
      rw [wrap_succ (by omega), List.drop_eq_getElem_cons c]
      cases x with
      | true =>
        simp only [if_true, Option.bind_some]
        rw [tl_L1 hW hi k (j + 1) true (by omega) (by omega)]; simp
      | false =>
        simp only [Bool.false_eq_true, if_false]
        rw [reqT (show (0 : Int) ≤ (i : Int) by omega), reqT ci]
        simp only [nm, Int.toNat_natCast]
        rw [reqT (show (0 : Int) ≤ (j : Int) by omega), reqT c', hg, hgi, heq]
        simp only [Option.bind_some]
        rw [tl_L1 hW hi k (j + 1) _ (by omega) (by omega)]
        simp only [Bool.false_or, List.mem_cons, Bool.decide_or]
    · have c' : ¬ (j : Int) < ((W.map U.tm).length : Int) := by simp; omega
      simp only [c', decide_false, Bool.false_eq_true, if_false]
      rw [List.drop_eq_nil_of_le (by omega)]; simp
theorem tl_L0 {X W : List U} (hX : X.length ≤ 1000000) (hW : W.length ≤ 1000000) (hm : ∀ u ∈ X, u ∈ W) (hf : ∀ u ∈ X, Fit u) (hu : ∀ (i : Nat) (h : i + 1 < X.length), lessL (X[i]'(by omega)).txt (X[i + 1]).txt = true) : ∀ (k i : Nat), X.length - i < k → i ≤ X.length → law29_TermsLearns.L0 (X.map U.tm) (W.map U.tm) k (i : Int) = some (.inl ())
  | 0, i, hk, _ => by omega
  | k + 1, i, hk, hi => by
    rw [law29_TermsLearns.L0]
    by_cases c : i < X.length
    · have ci : (i : Int) < ((X.map U.tm).length : Int) := by simp; omega
      have hgi : (X.map U.tm).getD i Tm.dflt = (X[i]).tm := by simp [c]
      have h1 := tl_L1 hW c ((((W.map U.tm).length : Int)).toNat + 1) 0 false (by simp) (Nat.zero_le _)
      have hin : X[i] ∈ W := hm _ (List.getElem_mem c)
      have htx : ∀ (j : Nat) (h : j < X.length), ref29_Text.f (Tm.fuel (X[j]).tm) (X[j]).tm = some (X[j]).txt := fun j h => by
        have := hf _ (List.getElem_mem h)
        exact rtextd this.1 (by have := this.2; omega)
      rw [List.drop_zero, decide_eq_true hin] at h1
      refine (if_pos (by simpa using c)).trans ?_
      rw [show (0 : Int) = ((0 : Nat) : Int) from rfl, h1]
      simp only [Option.bind_some, Bool.false_or, Bool.not_true, Bool.false_eq_true, if_false]
      rw [wrap_succ (by omega)]
      have hnext := tl_L0 hX hW hm hf hu k (i + 1) (by omega) (by omega)
      cases i with
      | zero =>
        simp
        exact hnext
      | succ i =>
        have e1 : IntKind.i64.wrap (((i + 1 : Nat) : Int) - 1) = (i : Int) := by rw [w64 (by omega) (by omega)]; omega
        have hgp : (X.map U.tm).getD i Tm.dflt = (X[i]'(by omega)).tm := by simp [show i < X.length by omega]
        have cp : (i : Int) < ((X.map U.tm).length : Int) := by simp; omega
        have c0 : decide (((0 : Nat) : Int) < ((i + 1 : Nat) : Int)) = true := decide_eq_true (by omega)
        rw [e1]
        simp only [c0, if_true]
        rw [reqT (show ((0 : Nat) : Int) ≤ (i : Int) by omega), reqT cp]
        simp only [nm, Int.toNat_natCast]
        rw [hgp, htx i (by omega), Option.bind_some, reqT (show ((0 : Nat) : Int) ≤ ((i + 1 : Nat) : Int) by omega), reqT ci, hgi, htx (i + 1) c]
        simp only [Option.bind_some, hu i c, Bool.not_true, Bool.false_eq_true, if_false]
        exact hnext
    · have c' : ¬ (i : Int) < ((X.map U.tm).length : Int) := by simp; omega
      simp only [c', decide_false, Bool.false_eq_true, if_false]
theorem Can_no {t : Tm} {xs : List Tm} (h : terms_May.f t = some false) : terms_Can.f t xs = some false := by
  unfold terms_Can.f
  rw [h]; rfl
theorem Can_no2 {t : Tm} {xs : List Tm} {b : Bool} (h : terms_May.f t = some b) (h2 : terms_may.f xs = some false) : terms_Can.f t xs = some false := by
  unfold terms_Can.f
  rw [h, h2]; cases b <;> rfl
theorem Learn_no {xs : List Tm} (h2 : terms_may.f xs = some false) : terms_Learn.f xs = some ([], 2) := by
  unfold terms_Learn.f
  rw [h2]; rfl
theorem num_law (n : Int) : law29_num.f n = some n := rfl
theorem TermsLearns_law {xs : List Tm} {t : Tm} (hx : ∀ t ∈ xs, TOk t) (ht : TOk t) : law29_TermsLearns.f xs t = some true := by
  unfold law29_TermsLearns.f
  obtain ⟨b, e, hb⟩ := much_law xs
  obtain ⟨d, e3, hd⟩ := mayR ht
  obtain ⟨m, e5, hm⟩ := may_any ht
  rw [e, Option.bind_some]
  cases b with
  | true => simp [known_law]
  | false =>
    have hb := hb rfl
    obtain ⟨c, e2, hc⟩ := all_law (by omega) hx
    obtain ⟨c2, e4, hc2⟩ := may_list (by omega) hx
    rw [sized t (by decide) (by decide)]
    simp only [Bool.false_eq_true, if_false, Option.bind_some]
    by_cases c1 : 300 < szTo t 301
    · simp [c1, known_law]
    · simp only [c1, decide_false, Bool.false_eq_true, if_false]
      cases c with
      | false =>
        have : c2 = false := by
          cases c2 with
          | false => rfl
          | true =>
            obtain ⟨us, rfl, hus⟩ := hc2 rfl
            rw [all_u (by have : us.length ≤ 30 := by simpa using hb
                          omega) hus] at e2
            cases e2
        subst this
        rw [Learn_no e4, Option.bind_some, Can_no2 e5 e4, e2]
        simp [num_law, known_law]
      | true =>
        obtain ⟨us, rfl, hus⟩ := hc rfl
        have hul : us.length ≤ 30 := by simpa using hb
        obtain ⟨K, eK, hK⟩ := rlearn_u hus hul
        have hmem : ∀ u, u ∈ K ↔ u ∈ learnU us := fun u => hK.mem_iff
        have hlen : K.length ≤ 90000 := by
          rw [hK.length_eq]
          have h1 := (learnU_ok us).1.len
          have h2 := univ_len (base_ok hus)
          have h3 := baseU_len (us := us) (K := [])
          simp at h3; omega
        have hsl : (learnS us).length = K.length := by rw [(learnS_perm us).length_eq, hK.length_eq]
        have h0 := tl_L0 (X := learnS us) (W := K) (by omega) (by omega) (fun u hu => (hmem u).2 ((learnS_perm us).mem_iff.1 hu)) (fun u hu => learn_fit hus ((learnS_perm us).mem_iff.1 hu)) (fun i h => learnS_up hus h) (((((learnS us).map U.tm).length : Int)).toNat + 1) 0 (by simp) (Nat.zero_le _)
        rw [show ((0 : Nat) : Int) = 0 from rfl] at h0
        have hcan : ∃ q, terms_Can.f t (us.map U.tm) = some q ∧ ((if d = true then ((ref29_Can.f t (us.map U.tm)).bind fun t100 => some t100) else (some false)) = some q) := by
          cases d with
          | true =>
            obtain ⟨v, rfl, hv⟩ := hd rfl
            refine ⟨synB (learnU us) v.ordr, Can_u (by omega) hus hv, ?_⟩
            have hv2 := fit_ordr hv
            unfold ref29_Can.f
            rw [if_pos rfl, rorderd hv.1 (by have := hv.2; omega), Option.bind_some, eK, Option.bind_some]
            show Option.bind (Option.bind (ref29_made.f (Tm.fuel v.ordr.tm) v.ordr.tm (K.map U.tm)) _) _ = _
            rw [made_u (K := K) (u := v.ordr) (k := Tm.fuel v.ordr.tm) (by omega) (Nat.le_refl _), synB_congr hmem]; rfl
          | false =>
            have : m = false := by
              cases m with
              | false => rfl
              | true =>
                obtain ⟨u, rfl, hu⟩ := hm rfl
                rw [mayR_u hu] at e3; cases e3
            subst this
            exact ⟨false, Can_no e5, rfl⟩
        obtain ⟨q, hq1, hq2⟩ := hcan
        rw [Learn_u hus (by omega), Option.bind_some, hq1, e2, eK]
        simp only [Option.bind_some, Bool.not_true, Bool.false_eq_true, if_false, num_law, e3, hq2]
        simp only [List.length_map, hsl, bne_self_eq_false, Bool.false_eq_true, if_false, Option.bind_some, beq_self_eq_true, Bool.not_true]
        rw [List.length_map, hsl] at h0
        rw [h0]
        simp [onw, known_law]
end Go.Proofs.YtfbogkhgfaibbaaDoor
end
