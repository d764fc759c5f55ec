import Derived.Test.YtfbogkhgfaibbaaDoorTmV
namespace Go.Proofs.YtfbogkhgfaibbaaDoor
open Go Go.HW Go.RowKit
set_option linter.unusedVariables false
set_option linter.unusedSimpArgs false

/-! ### order, can, apart, at terms that fit -/
theorem req_t {α : Type} {p : Prop} [Decidable p] {x : Option α} (h : p) : req p x = x := if_pos h
theorem rev2 (a b : Tm) : tm_reverse.f [a, b] = some [b, a] := by kernel_rfl
theorem ordr_bi (k : K2) (a b : U) : (U.bi k a b).ordr = if k = .shared ∧ (lessL a.ordr.txt b.ordr.txt || a.ordr.txt == b.ordr.txt) = false then .bi k b.ordr a.ordr else .bi k a.ordr b.ordr := by rw [U.ordr]
theorem order_u : ∀ {u : U}, u.ok → u.size ≤ 2000000 → ∀ {k : Nat}, u.tm.depth ≤ k → terms_order.f k u.tm = some u.ordr.tm := by
  intro u
  induction u with
  | d n =>
    intro h hs k hk
    cases k with
    | zero => simp [U.tm, depth_leaf] at hk
    | succ k => rfl
  | s n =>
    intro h hs k hk
    cases k with
    | zero => simp [U.tm, depth_leaf] at hk
    | succ k => rfl
  | un c a ih =>
    intro h hs k hk
    cases k with
    | zero => rw [U.tm, depth_un] at hk; omega
    | succ k =>
      rw [U.tm, depth_un] at hk
      simp only [U.size] at hs
      have ha := ih h (by omega) (k := k) (by omega)
      show terms_order.F (terms_order.f k) (Tm.mk c.num 0 [a.tm]) = _
      unfold terms_order.F
      have e1 : terms_order.L0 (terms_order.f k) (Tm.mk c.num 0 [a.tm]) (((([a.tm] : List Tm).length : Int)).toNat + 1) [] 0 = some [a.ordr.tm] := by
        show terms_order.L0 (terms_order.f k) (Tm.mk c.num 0 [a.tm]) 2 [] 0 = _
        simp [terms_order.L0, nm, req, Tm.mk, Tree.kids, ha, wrap1]
      refine (congrArg (fun x => Option.bind x _) e1).trans ?_
      have hc : ¬ (c.num == 8) = true := by cases c <;> decide
      rw [Option.bind_some]
      refine (congrArg (fun x => Option.bind x _) (if_neg hc)).trans ?_
      rfl
  | bi c a b iha ihb =>
    intro h hs k hk
    cases k with
    | zero => rw [U.tm] at hk; have := depth_bi c.num 0 a.tm b.tm; omega
    | succ k =>
      rw [U.tm] at hk
      have hd := depth_bi c.num 0 a.tm b.tm
      simp only [U.size] at hs
      have ha := iha h.1 (by omega) (k := k) (by omega)
      have hb := ihb h.2 (by omega) (k := k) (by omega)
      show terms_order.F (terms_order.f k) (Tm.mk c.num 0 [a.tm, b.tm]) = _
      unfold terms_order.F
      have e1 : terms_order.L0 (terms_order.f k) (Tm.mk c.num 0 [a.tm, b.tm]) (((([a.tm, b.tm] : List Tm).length : Int)).toNat + 1) [] 0 = some [a.ordr.tm, b.ordr.tm] := by
        show terms_order.L0 (terms_order.f k) (Tm.mk c.num 0 [a.tm, b.tm]) 3 [] 0 = _
        simp [terms_order.L0, nm, req, Tm.mk, Tree.kids, ha, hb, wrap1, wrap2]
      refine (congrArg (fun x => Option.bind x _) e1).trans ?_
      rw [Option.bind_some]
      by_cases hc : c = .shared
      · subst hc
        refine (congrArg (fun x => Option.bind x _) (if_pos (show (K2.shared.num == 8) = true by decide))).trans ?_
        have t1 := textd (ordr_ok h.1) (by rw [ordr_size]; omega)
        have t2 := textd (ordr_ok h.2) (by rw [ordr_size]; omega)
        simp only [req, nm, List.length_cons, List.length_nil, List.getD_cons_zero, Int.toNat_zero, Option.bind_some, t1]
        rw [if_pos (by decide), if_pos (by decide)]
        have e2 : ([a.ordr.tm, b.ordr.tm] : List Tm).getD ((1 : Int).toNat) Tm.dflt = b.ordr.tm := rfl
        rw [e2, t2]
        simp only [Option.bind_some]
        cases hq : (lessL a.ordr.txt b.ordr.txt || a.ordr.txt == b.ordr.txt) with
        | true =>
          have e3 : (U.bi .shared a b).ordr = .bi .shared a.ordr b.ordr := by rw [ordr_bi, hq]; simp
          rw [e3]
          rfl
        | false =>
          have e3 : (U.bi .shared a b).ordr = .bi .shared b.ordr a.ordr := by rw [ordr_bi, hq]; simp
          rw [e3]
          show Option.bind (if true = true then (tm_reverse.f [a.ordr.tm, b.ordr.tm]).bind _ else _) _ = _
          rw [if_pos rfl, rev2]
          rfl
      · have hc' : ¬ (c.num == 8) = true := by cases c <;> first | decide | exact absurd rfl hc
        refine (congrArg (fun x => Option.bind x _) (if_neg hc')).trans ?_
        rw [ordr_bi, if_neg (fun hh => hc hh.1)]
        rfl
theorem orderd {u : U} (h : u.ok) (hs : u.size ≤ 2000000) : terms_order.f (Tm.fuel u.tm) u.tm = some u.ordr.tm := order_u h hs (Nat.le_refl _)

/-! #### what is known -/
def toKM (K : List U) : KM := K.map fun u => (u.txt, u.tm)
def KOk (K : List U) : Prop := ∀ u ∈ K, u.ok
theorem kfind_u {K : List U} (hK : KOk K) {u : U} (hu : u.ok) : kfind u.txt (toKM K) = if u ∈ K then some u.tm else none := by
  induction K with
  | nil => rfl
  | cons v K ih =>
    have hv : v.ok := hK v List.mem_cons_self
    show (if u.txt == v.txt then some v.tm else kfind u.txt (toKM K)) = _
    by_cases e : u = v
    · subst e; simp
    · have : (u.txt == v.txt) = false := by
        rw [beq_eq_false_iff_ne]; exact fun h => e (txt_inj hu hv h)
      rw [this, ih fun u hu => hK u (List.mem_cons_of_mem _ hu)]
      simp [e]
theorem khas_u {K : List U} (hK : KOk K) {u : U} (hu : u.ok) : khas (toKM K) u.txt = decide (u ∈ K) := by
  unfold khas; rw [kfind_u hK hu]; by_cases h : u ∈ K <;> simp [h]
theorem kget_u {K : List U} (hK : KOk K) {u : U} (hu : u.ok) : kgetT (toKM K) u.txt = if u ∈ K then u.tm else Tm.dflt := by
  unfold kgetT; rw [kfind_u hK hu]; by_cases h : u ∈ K <;> simp [h]
theorem kind_u (u : U) : Tm.kind u.tm ≠ 0 := by
  cases u with
  | d n => show (1 : Int) ≠ 0; decide
  | s n => show (2 : Int) ≠ 0; decide
  | un k a => show k.num ≠ 0; cases k <;> decide
  | bi k a b => show k.num ≠ 0; cases k <;> decide
theorem kget0 {K : List U} (hK : KOk K) {u : U} (hu : u.ok) : (Tm.kind (kgetT (toKM K) u.txt) == 0) = decide (¬ u ∈ K) := by
  rw [kget_u hK hu]
  by_cases h : u ∈ K
  · simp [h, kind_u u]
  · simp [h]; rfl
theorem kset_u {K : List U} (hK : KOk K) {u : U} (hu : u.ok) : kset u.txt u.tm (toKM K) = toKM (if u ∈ K then K else K ++ [u]) := by
  induction K with
  | nil => rfl
  | cons v K ih =>
    have hv : v.ok := hK v List.mem_cons_self
    show (if u.txt == v.txt then (u.txt, u.tm) :: toKM K else (v.txt, v.tm) :: kset u.txt u.tm (toKM K)) = _
    by_cases e : u = v
    · subst e; simp [toKM]
    · have : (u.txt == v.txt) = false := by
        rw [beq_eq_false_iff_ne]; exact fun h => e (txt_inj hu hv h)
      rw [this, ih fun u hu => hK u (List.mem_cons_of_mem _ hu)]
      by_cases h : u ∈ K <;> simp [e, h, toKM]
def synB (K : List U) : U → Bool
  | .d _ => true
  | .s n => decide (U.s n ∈ K)
  | .un k a => decide (U.un k a ∈ K) || synB K a
  | .bi .shared a b => decide (U.bi .shared a b ∈ K) || ((synB K a && (synB K b || decide (U.un .pub b ∈ K))) || (synB K b && decide (U.un .pub a ∈ K)))
  | .bi k a b => decide (U.bi k a b ∈ K) || (synB K a && synB K b)
theorem synB_iff {K : List U} : ∀ {u : U}, synB K u = true ↔ Syn (· ∈ K) u
  | .d _ => by simp [synB, Syn]
  | .s n => by simp [synB, Syn]
  | .un k a => by simp [synB, Syn, synB_iff (u := a)]
  | .bi k a b => by
    cases k <;> simp [synB, Syn, synB_iff (u := a), synB_iff (u := b)]
theorem can_u {K : List U} (hK : KOk K) : ∀ {u : U}, u.ok → u.size ≤ 2000000 → ∀ {k : Nat}, u.tm.depth ≤ k → terms_can.f k u.tm (toKM K) = some (synB K u) := by
  intro u
  induction u with
  | d n =>
    intro h hs k hk
    cases k with
    | zero => simp [U.tm, depth_leaf] at hk
    | succ k =>
      show terms_can.F (terms_can.f k) (Tm.mk 1 n []) (toKM K) = _
      unfold terms_can.F
      refine (congrArg (fun x => Option.bind x _) (textd (u := .d n) h hs)).trans ?_
      simp only [Option.bind_some, nm, khas_u hK h, kind_mk]
      by_cases hm : U.d n ∈ K <;> simp [hm, synB]
  | s n =>
    intro h hs k hk
    cases k with
    | zero => simp [U.tm, depth_leaf] at hk
    | succ k =>
      show terms_can.F (terms_can.f k) (Tm.mk 2 n []) (toKM K) = _
      unfold terms_can.F
      refine (congrArg (fun x => Option.bind x _) (textd (u := .s n) h hs)).trans ?_
      simp only [Option.bind_some, nm, khas_u hK h, kind_mk]
      by_cases hm : U.s n ∈ K <;> simp [hm, synB]
  | un c a ih =>
    intro h hs k hk
    cases k with
    | zero => rw [U.tm, depth_un] at hk; omega
    | succ k =>
      rw [U.tm, depth_un] at hk
      have hs0 := hs
      simp only [U.size] at hs
      have ha := ih h (by omega) (k := k) (by omega)
      show terms_can.F (terms_can.f k) (Tm.mk c.num 0 [a.tm]) (toKM K) = _
      unfold terms_can.F
      refine (congrArg (fun x => Option.bind x _) (textd (u := .un c a) h hs0)).trans ?_
      have c1 : (c.num == 1) = false := by cases c <;> decide
      have c8 : (c.num == 8) = false := by cases c <;> decide
      have c2 : (c.num != 2) = true := by cases c <;> decide
      have e1 : cont61.f (terms_can.f k) [a.tm] (toKM K) = some (!synB K a) := by
        unfold cont61.f idx61.f
        show Option.bind (onw (idx61.L0 (terms_can.f k) [a.tm] (toKM K) 2 0) _ _) _ = _
        cases hq : synB K a <;> simp [idx61.L0, req, nm, terms_knowledge__can_1_2.f, ha, hq, onw, wrap1]
      simp only [Option.bind_some, nm, khas_u hK (u := .un c a) h, kind_mk, kids_mk, e1, c1, c8, c2]
      by_cases hm : U.un c a ∈ K <;> cases hq : synB K a <;> simp [hm, synB, hq]
  | bi c a b iha ihb =>
    intro h hs k hk
    cases k with
    | zero => rw [U.tm] at hk; have := depth_bi c.num 0 a.tm b.tm; omega
    | succ k =>
      rw [U.tm] at hk
      have hd := depth_bi c.num 0 a.tm b.tm
      have hs0 := hs
      simp only [U.size] at hs
      have ha := iha h.1 (by omega) (k := k) (by omega)
      have hb := ihb h.2 (by omega) (k := k) (by omega)
      show terms_can.F (terms_can.f k) (Tm.mk c.num 0 [a.tm, b.tm]) (toKM K) = _
      unfold terms_can.F
      refine (congrArg (fun x => Option.bind x _) (textd (u := .bi c a b) h hs0)).trans ?_
      have c1 : (c.num == 1) = false := by cases c <;> decide
      have c2 : (c.num != 2) = true := by cases c <;> decide
      by_cases hc : c = .shared
      · subst hc
        have c8 : (K2.shared.num == 8) = true := by decide
        have pa : terms_knowledge__can_1_1.f 0 (toKM K) (Tm.mk K2.shared.num 0 [a.tm, b.tm]) = some (decide (U.un .pub a ∈ K)) := by
          have ht := textd (u := .un .pub a) h.1 (by simp only [U.size]; omega)
          have hg := kget0 hK (u := .un .pub a) h.1
          simp only [U.tm] at ht
          show req _ (req _ (req _ (nm [a.tm] fun t9 => (terms_text.f (Tm.fuel (Tm.mk 3 0 t9)) (Tm.mk 3 0 t9)).bind _))) = _
          refine (req_t (by decide)).trans ?_
          refine (req_t (by decide)).trans ?_
          refine (req_t (show IntKind.i64.wrap (0 + 1) ≤ (2 : Int) by decide)).trans ?_
          show Option.bind (terms_text.f (Tm.fuel (Tm.mk 3 0 [a.tm])) (Tm.mk 3 0 [a.tm])) _ = _
          rw [show (Tm.mk 3 0 [a.tm]) = Tm.mk K1.pub.num 0 [a.tm] from rfl, ht]
          simp only [Option.bind_some, bne, nm]
          rw [hg]; by_cases hm : U.un .pub a ∈ K <;> simp [hm]
        have pb : terms_knowledge__can_1_1.f 1 (toKM K) (Tm.mk K2.shared.num 0 [a.tm, b.tm]) = some (decide (U.un .pub b ∈ K)) := by
          have ht := textd (u := .un .pub b) h.2 (by simp only [U.size]; omega)
          have hg := kget0 hK (u := .un .pub b) h.2
          simp only [U.tm] at ht
          show req _ (req _ (req _ (nm [b.tm] fun t9 => (terms_text.f (Tm.fuel (Tm.mk 3 0 t9)) (Tm.mk 3 0 t9)).bind _))) = _
          refine (req_t (by decide)).trans ?_
          refine (req_t (by decide)).trans ?_
          refine (req_t (show IntKind.i64.wrap (1 + 1) ≤ (2 : Int) by decide)).trans ?_
          show Option.bind (terms_text.f (Tm.fuel (Tm.mk 3 0 [b.tm])) (Tm.mk 3 0 [b.tm])) _ = _
          rw [show (Tm.mk 3 0 [b.tm]) = Tm.mk K1.pub.num 0 [b.tm] from rfl, ht]
          simp only [Option.bind_some, bne, nm]
          rw [hg]; by_cases hm : U.un .pub b ∈ K <;> simp [hm]
        simp only [Option.bind_some, nm, khas_u hK (u := .bi .shared a b) h, kind_mk, kids_mk, c1, c8, c2, pa, pb, req]
        rw [show ([a.tm, b.tm] : List Tm).getD ((0 : Int).toNat) Tm.dflt = a.tm from rfl, show ([a.tm, b.tm] : List Tm).getD ((1 : Int).toNat) Tm.dflt = b.tm from rfl, ha, hb]
        by_cases hm : U.bi .shared a b ∈ K <;> cases hq : synB K a <;> cases hr : synB K b <;> by_cases h1 : U.un .pub a ∈ K <;> by_cases h2 : U.un .pub b ∈ K <;> simp [hm, synB, hq, hr, h1, h2]
      · have c8 : (c.num == 8) = false := by cases c <;> first | decide | exact absurd rfl hc
        have e1 : cont61.f (terms_can.f k) [a.tm, b.tm] (toKM K) = some (!(synB K a && synB K b)) := by
          unfold cont61.f idx61.f
          show Option.bind (onw (idx61.L0 (terms_can.f k) [a.tm, b.tm] (toKM K) 3 0) _ _) _ = _
          cases hq : synB K a <;> cases hr : synB K b <;> simp [idx61.L0, req, nm, terms_knowledge__can_1_2.f, ha, hb, hq, hr, onw, wrap1, wrap2]
        simp only [Option.bind_some, nm, khas_u hK (u := .bi c a b) h, kind_mk, kids_mk, e1, c1, c8, c2]
        have e2 : synB K (.bi c a b) = (decide (U.bi c a b ∈ K) || (synB K a && synB K b)) := by cases c <;> first | rfl | exact absurd rfl hc
        rw [e2]
        by_cases hm : U.bi c a b ∈ K <;> cases hq : synB K a <;> cases hr : synB K b <;> simp [hm, hq, hr]
theorem canM_u {K : List U} (hK : KOk K) {u : U} (h : u.ok) (hs : u.size ≤ 2000000) : terms_canM.f (toKM K) u.tm = some (synB K u) := by
  unfold terms_canM.f
  show Option.bind (terms_can.f u.tm.depth u.tm (toKM K)) _ = _
  rw [can_u hK h hs (Nat.le_refl _)]; rfl
def anB (K : List U) : U → List U
  | .bi .pair a b => [a, b]
  | .bi .sign _ b => [b]
  | .bi .enc a b => if synB K a then [b] else []
  | _ => []
theorem anB_iff {K : List U} {u p : U} : p ∈ anB K u ↔ An (· ∈ K) u p := by
  cases u with
  | bi k a b =>
    cases k
    case enc =>
      cases h : synB K a
      · have : ¬ Syn (· ∈ K) a := fun hh => by rw [← synB_iff, h] at hh; cases hh
        simp [anB, An, h, this]
      · simp [anB, An, h, synB_iff.1 h]
    all_goals simp [anB, An]
  | _ => simp [anB, An]
theorem apart_u {K : List U} (hK : KOk K) {u : U} (h : u.ok) (hs : u.size ≤ 2000000) : terms_apart.f (toKM K) u.tm = some ((anB K u).map U.tm) := by
  cases u with
  | d n => rfl
  | s n => rfl
  | un k a => cases k <;> rfl
  | bi k a b =>
    simp only [U.size] at hs
    cases k
    case enc =>
      have hc := canM_u hK (u := a) h.1 (by omega)
      have e0 : (terms_canM.f (toKM K) a.tm).bind (fun t26 => some t26) = some (synB K a) := by rw [hc]; rfl
      unfold terms_apart.f
      refine (if_neg (show ¬ ((4 : Int) == 7) = true by decide)).trans ?_
      refine (congrArg (fun x => Option.bind x _) (if_neg (show ¬ ((4 : Int) == 5) = true by decide))).trans ?_
      refine (congrArg (fun x => Option.bind (Option.bind x _) _) ((if_pos (show ((4 : Int) == 4) = true by decide)).trans ((req_t (show (0 : Int) < 2 by decide)).trans e0))).trans ?_
      cases hq : synB K a <;> simp [anB, hq, U.tm, kids_mk]
      exact req_t trivial
    all_goals rfl
end Go.Proofs.YtfbogkhgfaibbaaDoor
