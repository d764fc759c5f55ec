import Derived.Test.YtfbogkhgfaibbaaDoorTmU
import Derived.Test.YtfbogkhgfaibbaaDoorTmLearn
section
namespace Go.Proofs.YtfbogkhgfaibbaaDoor
open Go Go.HW Go.RowKit
set_option linter.unusedVariables false
set_option linter.unusedSimpArgs false

/-! ### the program's functions at terms that fit -/
theorem depth_un (k : Int) (n : Int) (a : Tm) : Tree.depth (Tm.mk k n [a]) = Tree.depth a + 1 := by
  show Tree.depths [a] + 1 = _
  simp only [Tree.depths]
  have := Nat.max_eq_left (Nat.zero_le (Tree.depth a))
  rw [show (Tree.depth a).max 0 = Tree.depth a from this]
theorem depth_bi (k : Int) (n : Int) (a b : Tm) : Tree.depth a + 1 ≤ Tree.depth (Tm.mk k n [a, b]) ∧ Tree.depth b + 1 ≤ Tree.depth (Tm.mk k n [a, b]) := by
  show _ ≤ Tree.depths [a, b] + 1 ∧ _ ≤ Tree.depths [a, b] + 1
  simp only [Tree.depths]
  have h1 := Nat.le_max_left (Tree.depth a) ((Tree.depth b).max 0)
  have h2 := Nat.le_max_right (Tree.depth a) ((Tree.depth b).max 0)
  have h3 := Nat.le_max_left (Tree.depth b) 0
  exact ⟨Nat.add_le_add_right h1 1, Nat.add_le_add_right (Nat.le_trans h3 h2) 1⟩
theorem kind_mk (k n : Int) (l : List Tm) : Tm.kind (Tm.mk k n l) = k := rfl
theorem num_mk (k n : Int) (l : List Tm) : Tm.num (Tm.mk k n l) = n := rfl
theorem kids_mk (k n : Int) (l : List Tm) : Tree.kids (Tm.mk k n l) = l := rfl
theorem depth_leaf (k n : Int) : Tree.depth (Tm.mk k n []) = 1 := rfl
theorem wrap1 : IntKind.i64.wrap 1 = 1 := by decide
theorem wrap2 : IntKind.i64.wrap 2 = 2 := by decide
theorem text_u : ∀ {u : U}, u.ok → u.size ≤ 2000000 → ∀ {k : Nat}, u.tm.depth ≤ k → terms_text.f k u.tm = some u.txt := by
  intro u
  induction u with
  | d n =>
    intro h hs k hk
    cases k with
    | zero => simp [U.tm, depth_leaf] at hk
    | succ k =>
      have := U.txt_len (u := .d n) h
      have h1 := h.1; have h2 := h.2
      simp only [U.txt, U.size, List.length_cons] at this
      show terms_text.F _ (Tm.mk 1 n []) = _
      unfold terms_text.F
      rw [if_pos (by rfl)]
      simp only [req, nm]
      show (if -9223372036854775808 ≤ n then _ else _) = _
      rw [if_pos (by omega)]
      show (if n ≤ 9223372036854775807 then _ else _) = _
      rw [if_pos (by omega), if_pos (by show (fmName 1).length + _ ≤ _; show 1 + (Lib.itoa n).length ≤ _; omega)]
      rfl
  | s n =>
    intro h hs k hk
    cases k with
    | zero => simp [U.tm, depth_leaf] at hk
    | succ k =>
      have := U.txt_len (u := .s n) h
      have h1 := h.1; have h2 := h.2
      simp only [U.txt, U.size, List.length_cons] at this
      show terms_text.F _ (Tm.mk 2 n []) = _
      unfold terms_text.F
      rw [if_pos (by rfl)]
      simp only [req, nm]
      show (if -9223372036854775808 ≤ n then _ else _) = _
      rw [if_pos (by omega)]
      show (if n ≤ 9223372036854775807 then _ else _) = _
      rw [if_pos (by omega), if_pos (by show (fmName 2).length + _ ≤ _; show 1 + (Lib.itoa n).length ≤ _; omega)]
      rfl
  | un c a ih =>
    intro h hs k hk
    cases k with
    | zero => rw [U.tm, depth_un] at hk; omega
    | succ k =>
      rw [U.tm, depth_un] at hk
      simp only [U.size] at hs
      have ha := ih h (by omega) (k := k) (by omega)
      have hl := U.txt_len (u := a) h
      show terms_text.F (terms_text.f k) (Tm.mk c.num 0 [a.tm]) = _
      have hname : fmName c.num = c.name := by cases c <;> rfl
      have hnl : c.name.length ≤ 6 := by cases c <;> decide
      have hargs : ¬ (fmArgs c.num == 0) = true := by cases c <;> decide
      unfold terms_text.F
      refine (if_neg hargs).trans ?_
      simp only [kind_mk, num_mk, kids_mk]
      have e1 : terms_text.L0 (terms_text.f k) (Tm.mk c.num 0 [a.tm]) ((([a.tm].length : Int)).toNat + 1) [] 0 = some [a.txt] := by
        show terms_text.L0 (terms_text.f k) (Tm.mk c.num 0 [a.tm]) 2 [] 0 = _
        simp [terms_text.L0, nm, req, Tm.mk, Tree.kids, ha, wrap1]
      rw [e1]
      have hk2 : Tm.kind (Tm.mk c.num 0 [a.tm]) = c.num := rfl
      have hj : joinL [a.txt] [44] = a.txt := by simp [joinL, Lib.join]
      simp only [Option.bind_some, req, nm, hj, hname, List.length_append, List.length_cons, List.length_nil]
      rw [if_pos (by omega), if_pos (by omega), if_pos (by omega), if_pos (by omega), if_pos (by omega)]
      simp [U.txt]
  | bi c a b iha ihb =>
    intro h hs k hk
    cases k with
    | zero => rw [U.tm] at hk; have := depth_bi c.num 0 a.tm b.tm; omega
    | succ k =>
      rw [U.tm] at hk
      have hd := depth_bi c.num 0 a.tm b.tm
      simp only [U.size] at hs
      have ha := iha h.1 (by omega) (k := k) (by omega)
      have hb := ihb h.2 (by omega) (k := k) (by omega)
      have hl := U.txt_len (u := a) h.1
      have hl2 := U.txt_len (u := b) h.2
      show terms_text.F (terms_text.f k) (Tm.mk c.num 0 [a.tm, b.tm]) = _
      have hname : fmName c.num = c.name := by cases c <;> rfl
      have hnl : c.name.length ≤ 6 := by cases c <;> decide
      have hargs : ¬ (fmArgs c.num == 0) = true := by cases c <;> decide
      unfold terms_text.F
      refine (if_neg hargs).trans ?_
      simp only [kind_mk, num_mk, kids_mk]
      have e1 : terms_text.L0 (terms_text.f k) (Tm.mk c.num 0 [a.tm, b.tm]) ((([a.tm, b.tm].length : Int)).toNat + 1) [] 0 = some [a.txt, b.txt] := by
        show terms_text.L0 (terms_text.f k) (Tm.mk c.num 0 [a.tm, b.tm]) 3 [] 0 = _
        simp [terms_text.L0, nm, req, Tm.mk, Tree.kids, ha, hb, wrap1, wrap2]
      rw [e1]
      have hk2 : Tm.kind (Tm.mk c.num 0 [a.tm, b.tm]) = c.num := rfl
      have hj : joinL [a.txt, b.txt] [44] = a.txt ++ 44 :: b.txt := by simp [joinL, Lib.join, List.intercalate]
      simp only [Option.bind_some, req, nm, hj, hname, List.length_append, List.length_cons, List.length_nil]
      rw [if_pos (by omega), if_pos (by omega), if_pos (by omega), if_pos (by omega), if_pos (by omega)]
      simp [U.txt]
theorem textd {u : U} (h : u.ok) (hs : u.size ≤ 2000000) : terms_text.f (Tm.fuel u.tm) u.tm = some u.txt := text_u h hs (Nat.le_refl _)
end Go.Proofs.YtfbogkhgfaibbaaDoor
end

section
namespace Go.Proofs.YtfbogkhgfaibbaaDoor
open Go Go.HW Go.RowKit
set_option linter.unusedVariables false
set_option linter.unusedSimpArgs false

/-! ### order, can, apart, at terms that fit -/
theorem req_t {α : Type} {p : Prop} [Decidable p] {x : Option α} (h : p) : req p x = x := if_pos h
theorem rev2 (a b : Tm) : tm_reverse.f [a, b] = some [b, a] := by kernel_rfl
theorem ordr_bi (k : K2) (a b : U) : (U.bi k a b).ordr = if k = .shared ∧ (lessL a.ordr.txt b.ordr.txt || a.ordr.txt == b.ordr.txt) = false then .bi k b.ordr a.ordr else .bi k a.ordr b.ordr := by rw [U.ordr]
theorem order_u : ∀ {u : U}, u.ok → u.size ≤ 2000000 → ∀ {k : Nat}, u.tm.depth ≤ k → terms_order.f k u.tm = some u.ordr.tm := by
  intro u
  induction u with
  | d n =>
    intro h hs k hk
    cases k with
    | zero => simp [U.tm, depth_leaf] at hk
    | succ k => rfl
  | s n =>
    intro h hs k hk
    cases k with
    | zero => simp [U.tm, depth_leaf] at hk
    | succ k => rfl
  | un c a ih =>
    intro h hs k hk
    cases k with
    | zero => rw [U.tm, depth_un] at hk; omega
    | succ k =>
      rw [U.tm, depth_un] at hk
      simp only [U.size] at hs
      have ha := ih h (by omega) (k := k) (by omega)
      show terms_order.F (terms_order.f k) (Tm.mk c.num 0 [a.tm]) = _
      unfold terms_order.F
      have e1 : terms_order.L0 (terms_order.f k) (Tm.mk c.num 0 [a.tm]) (((([a.tm] : List Tm).length : Int)).toNat + 1) [] 0 = some [a.ordr.tm] := by
        show terms_order.L0 (terms_order.f k) (Tm.mk c.num 0 [a.tm]) 2 [] 0 = _
        simp [terms_order.L0, nm, req, Tm.mk, Tree.kids, ha, wrap1]
      refine (congrArg (fun x => Option.bind x _) e1).trans ?_
      have hc : ¬ (c.num == 8) = true := by cases c <;> decide
      rw [Option.bind_some]
      refine (congrArg (fun x => Option.bind x _) (if_neg hc)).trans ?_
      rfl
  | bi c a b iha ihb =>
    intro h hs k hk
    cases k with
    | zero => rw [U.tm] at hk; have := depth_bi c.num 0 a.tm b.tm; omega
    | succ k =>
      rw [U.tm] at hk
      have hd := depth_bi c.num 0 a.tm b.tm
      simp only [U.size] at hs
      have ha := iha h.1 (by omega) (k := k) (by omega)
      have hb := ihb h.2 (by omega) (k := k) (by omega)
      show terms_order.F (terms_order.f k) (Tm.mk c.num 0 [a.tm, b.tm]) = _
      unfold terms_order.F
      have e1 : terms_order.L0 (terms_order.f k) (Tm.mk c.num 0 [a.tm, b.tm]) (((([a.tm, b.tm] : List Tm).length : Int)).toNat + 1) [] 0 = some [a.ordr.tm, b.ordr.tm] := by
        show terms_order.L0 (terms_order.f k) (Tm.mk c.num 0 [a.tm, b.tm]) 3 [] 0 = _
        simp [terms_order.L0, nm, req, Tm.mk, Tree.kids, ha, hb, wrap1, wrap2]
      refine (congrArg (fun x => Option.bind x _) e1).trans ?_
      rw [Option.bind_some]
      by_cases hc : c = .shared
      · subst hc
        refine (congrArg (fun x => Option.bind x _) (if_pos (show (K2.shared.num == 8) = true by decide))).trans ?_
        have t1 := textd (ordr_ok h.1) (by rw [ordr_size]; omega)
        have t2 := textd (ordr_ok h.2) (by rw [ordr_size]; omega)
        simp only [req, nm, List.length_cons, List.length_nil, List.getD_cons_zero, Int.toNat_zero, Option.bind_some, t1]
        rw [if_pos (by decide), if_pos (by decide)]
        have e2 : ([a.ordr.tm, b.ordr.tm] : List Tm).getD ((1 : Int).toNat) Tm.dflt = b.ordr.tm := rfl
        rw [e2, t2]
        simp only [Option.bind_some]
        cases hq : (lessL a.ordr.txt b.ordr.txt || a.ordr.txt == b.ordr.txt) with
        | true =>
          have e3 : (U.bi .shared a b).ordr = .bi .shared a.ordr b.ordr := by rw [ordr_bi, hq]; simp
          rw [e3]
          rfl
        | false =>
          have e3 : (U.bi .shared a b).ordr = .bi .shared b.ordr a.ordr := by rw [ordr_bi, hq]; simp
          rw [e3]
          show Option.bind (if true = true then (tm_reverse.f [a.ordr.tm, b.ordr.tm]).bind _ else _) _ = _
          rw [if_pos rfl, rev2]
          rfl
      · have hc' : ¬ (c.num == 8) = true := by cases c <;> first | decide | exact absurd rfl hc
        refine (congrArg (fun x => Option.bind x _) (if_neg hc')).trans ?_
        rw [ordr_bi, if_neg (fun hh => hc hh.1)]
        rfl
theorem orderd {u : U} (h : u.ok) (hs : u.size ≤ 2000000) : terms_order.f (Tm.fuel u.tm) u.tm = some u.ordr.tm := order_u h hs (Nat.le_refl _)

/-! #### what is known -/
def toKM (K : List U) : KM := K.map fun u => (u.txt, u.tm)
def KOk (K : List U) : Prop := ∀ u ∈ K, u.ok
theorem kfind_u {K : List U} (hK : KOk K) {u : U} (hu : u.ok) : kfind u.txt (toKM K) = if u ∈ K then some u.tm else none := by
  induction K with
  | nil => rfl
  | cons v K ih =>
    have hv : v.ok := hK v List.mem_cons_self
    show (if u.txt == v.txt then some v.tm else kfind u.txt (toKM K)) = _
    by_cases e : u = v
    · subst e; simp
    · have : (u.txt == v.txt) = false := by
        rw [beq_eq_false_iff_ne]; exact fun h => e (txt_inj hu hv h)
      rw [this, ih fun u hu => hK u (List.mem_cons_of_mem _ hu)]
      simp [e]
theorem khas_u {K : List U} (hK : KOk K) {u : U} (hu : u.ok) : khas (toKM K) u.txt = decide (u ∈ K) := by
  unfold khas; rw [kfind_u hK hu]; by_cases h : u ∈ K <;> simp [h]
theorem kget_u {K : List U} (hK : KOk K) {u : U} (hu : u.ok) : kgetT (toKM K) u.txt = if u ∈ K then u.tm else Tm.dflt := by
  unfold kgetT; rw [kfind_u hK hu]; by_cases h : u ∈ K <;> simp [h]
theorem kind_u (u : U) : Tm.kind u.tm ≠ 0 := by
  cases u with
  | d n => show (1 : Int) ≠ 0; decide
  | s n => show (2 : Int) ≠ 0; decide
  | un k a => show k.num ≠ 0; cases k <;> decide
  | bi k a b => show k.num ≠ 0; cases k <;> decide
theorem kget0 {K : List U} (hK : KOk K) {u : U} (hu : u.ok) : (Tm.kind (kgetT (toKM K) u.txt) == 0) = decide (¬ u ∈ K) := by
  rw [kget_u hK hu]
  by_cases h : u ∈ K
  · simp [h, kind_u u]
  · simp [h]; rfl
theorem kset_u {K : List U} (hK : KOk K) {u : U} (hu : u.ok) : kset u.txt u.tm (toKM K) = toKM (if u ∈ K then K else K ++ [u]) := by
  induction K with
  | nil => rfl
  | cons v K ih =>
    have hv : v.ok := hK v List.mem_cons_self
    show (if u.txt == v.txt then (u.txt, u.tm) :: toKM K else (v.txt, v.tm) :: kset u.txt u.tm (toKM K)) = _
    by_cases e : u = v
    · subst e; simp [toKM]
    · have : (u.txt == v.txt) = false := by
        rw [beq_eq_false_iff_ne]; exact fun h => e (txt_inj hu hv h)
      rw [this, ih fun u hu => hK u (List.mem_cons_of_mem _ hu)]
      by_cases h : u ∈ K <;> simp [e, h, toKM]
def synB (K : List U) : U → Bool
  | .d _ => true
  | .s n => decide (U.s n ∈ K)
  | .un k a => decide (U.un k a ∈ K) || synB K a
  | .bi .shared a b => decide (U.bi .shared a b ∈ K) || ((synB K a && (synB K b || decide (U.un .pub b ∈ K))) || (synB K b && decide (U.un .pub a ∈ K)))
  | .bi k a b => decide (U.bi k a b ∈ K) || (synB K a && synB K b)
theorem synB_iff {K : List U} : ∀ {u : U}, synB K u = true ↔ Syn (· ∈ K) u
  | .d _ => by simp [synB, Syn]
  | .s n => by simp [synB, Syn]
  | .un k a => by simp [synB, Syn, synB_iff (u := a)]
  | .bi k a b => by
    cases k <;> simp [synB, Syn, synB_iff (u := a), synB_iff (u := b)]
theorem can_u {K : List U} (hK : KOk K) : ∀ {u : U}, u.ok → u.size ≤ 2000000 → ∀ {k : Nat}, u.tm.depth ≤ k → terms_can.f k u.tm (toKM K) = some (synB K u) := by
  intro u
  induction u with
  | d n =>
    intro h hs k hk
    cases k with
    | zero => simp [U.tm, depth_leaf] at hk
    | succ k =>
      show terms_can.F (terms_can.f k) (Tm.mk 1 n []) (toKM K) = _
      unfold terms_can.F
      refine (congrArg (fun x => Option.bind x _) (textd (u := .d n) h hs)).trans ?_
      simp only [Option.bind_some, nm, khas_u hK h, kind_mk]
      by_cases hm : U.d n ∈ K <;> simp [hm, synB]
  | s n =>
    intro h hs k hk
    cases k with
    | zero => simp [U.tm, depth_leaf] at hk
    | succ k =>
      show terms_can.F (terms_can.f k) (Tm.mk 2 n []) (toKM K) = _
      unfold terms_can.F
      refine (congrArg (fun x => Option.bind x _) (textd (u := .s n) h hs)).trans ?_
      simp only [Option.bind_some, nm, khas_u hK h, kind_mk]
      by_cases hm : U.s n ∈ K <;> simp [hm, synB]
  | un c a ih =>
    intro h hs k hk
    cases k with
    | zero => rw [U.tm, depth_un] at hk; omega
    | succ k =>
      rw [U.tm, depth_un] at hk
      have hs0 := hs
      simp only [U.size] at hs
      have ha := ih h (by omega) (k := k) (by omega)
      show terms_can.F (terms_can.f k) (Tm.mk c.num 0 [a.tm]) (toKM K) = _
      unfold terms_can.F
      refine (congrArg (fun x => Option.bind x _) (textd (u := .un c a) h hs0)).trans ?_
      have c1 : (c.num == 1) = false := by cases c <;> decide
      have c8 : (c.num == 8) = false := by cases c <;> decide
      have c2 : (c.num != 2) = true := by cases c <;> decide
      have e1 : cont61.f (terms_can.f k) [a.tm] (toKM K) = some (!synB K a) := by
        unfold cont61.f idx61.f
        show Option.bind (onw (idx61.L0 (terms_can.f k) [a.tm] (toKM K) 2 0) _ _) _ = _
        cases hq : synB K a <;> simp [idx61.L0, req, nm, terms_knowledge__can_1_2.f, ha, hq, onw, wrap1]
      simp only [Option.bind_some, nm, khas_u hK (u := .un c a) h, kind_mk, kids_mk, e1, c1, c8, c2]
      by_cases hm : U.un c a ∈ K <;> cases hq : synB K a <;> simp [hm, synB, hq]
  | bi c a b iha ihb =>
    intro h hs k hk
    cases k with
    | zero => rw [U.tm] at hk; have := depth_bi c.num 0 a.tm b.tm; omega
    | succ k =>
      rw [U.tm] at hk
      have hd := depth_bi c.num 0 a.tm b.tm
      have hs0 := hs
      simp only [U.size] at hs
      have ha := iha h.1 (by omega) (k := k) (by omega)
      have hb := ihb h.2 (by omega) (k := k) (by omega)
      show terms_can.F (terms_can.f k) (Tm.mk c.num 0 [a.tm, b.tm]) (toKM K) = _
      unfold terms_can.F
      refine (congrArg (fun x => Option.bind x _) (textd (u := .bi c a b) h hs0)).trans ?_
      have c1 : (c.num == 1) = false := by cases c <;> decide
      have c2 : (c.num != 2) = true := by cases c <;> decide
      by_cases hc : c = .shared
      · subst hc
        have c8 : (K2.shared.num == 8) = true := by decide
        have pa : terms_knowledge__can_1_1.f 0 (toKM K) (Tm.mk K2.shared.num 0 [a.tm, b.tm]) = some (decide (U.un .pub a ∈ K)) := by
          have ht := textd (u := .un .pub a) h.1 (by simp only [U.size]; omega)
          have hg := kget0 hK (u := .un .pub a) h.1
          simp only [U.tm] at ht
          show req _ (req _ (req _ (nm [a.tm] fun t9 => (terms_text.f (Tm.fuel (Tm.mk 3 0 t9)) (Tm.mk 3 0 t9)).bind _))) = _
          refine (req_t (by decide)).trans ?_
          refine (req_t (by decide)).trans ?_
          refine (req_t (show IntKind.i64.wrap (0 + 1) ≤ (2 : Int) by decide)).trans ?_
          show Option.bind (terms_text.f (Tm.fuel (Tm.mk 3 0 [a.tm])) (Tm.mk 3 0 [a.tm])) _ = _
          rw [show (Tm.mk 3 0 [a.tm]) = Tm.mk K1.pub.num 0 [a.tm] from rfl, ht]
          simp only [Option.bind_some, bne, nm]
          rw [hg]; by_cases hm : U.un .pub a ∈ K <;> simp [hm]
        have pb : terms_knowledge__can_1_1.f 1 (toKM K) (Tm.mk K2.shared.num 0 [a.tm, b.tm]) = some (decide (U.un .pub b ∈ K)) := by
          have ht := textd (u := .un .pub b) h.2 (by simp only [U.size]; omega)
          have hg := kget0 hK (u := .un .pub b) h.2
          simp only [U.tm] at ht
          show req _ (req _ (req _ (nm [b.tm] fun t9 => (terms_text.f (Tm.fuel (Tm.mk 3 0 t9)) (Tm.mk 3 0 t9)).bind _))) = _
          refine (req_t (by decide)).trans ?_
          refine (req_t (by decide)).trans ?_
          refine (req_t (show IntKind.i64.wrap (1 + 1) ≤ (2 : Int) by decide)).trans ?_
          show Option.bind (terms_text.f (Tm.fuel (Tm.mk 3 0 [b.tm])) (Tm.mk 3 0 [b.tm])) _ = _
          rw [show (Tm.mk 3 0 [b.tm]) = Tm.mk K1.pub.num 0 [b.tm] from rfl, ht]
          simp only [Option.bind_some, bne, nm]
          rw [hg]; by_cases hm : U.un .pub b ∈ K <;> simp [hm]
        simp only [Option.bind_some, nm, khas_u hK (u := .bi .shared a b) h, kind_mk, kids_mk, c1, c8, c2, pa, pb, req]
        rw [show ([a.tm, b.tm] : List Tm).getD ((0 : Int).toNat) Tm.dflt = a.tm from rfl, show ([a.tm, b.tm] : List Tm).getD ((1 : Int).toNat) Tm.dflt = b.tm from rfl, ha, hb]
        by_cases hm : U.bi .shared a b ∈ K <;> cases hq : synB K a <;> cases hr : synB K b <;> by_cases h1 : U.un .pub a ∈ K <;> by_cases h2 : U.un .pub b ∈ K <;> simp [hm, synB, hq, hr, h1, h2]
      · have c8 : (c.num == 8) = false := by cases c <;> first | decide | exact absurd rfl hc
        have e1 : cont61.f (terms_can.f k) [a.tm, b.tm] (toKM K) = some (!(synB K a && synB K b)) := by
          unfold cont61.f idx61.f
          show Option.bind (onw (idx61.L0 (terms_can.f k) [a.tm, b.tm] (toKM K) 3 0) _ _) _ = _
          cases hq : synB K a <;> cases hr : synB K b <;> simp [idx61.L0, req, nm, terms_knowledge__can_1_2.f, ha, hb, hq, hr, onw, wrap1, wrap2]
        simp only [Option.bind_some, nm, khas_u hK (u := .bi c a b) h, kind_mk, kids_mk, e1, c1, c8, c2]
        have e2 : synB K (.bi c a b) = (decide (U.bi c a b ∈ K) || (synB K a && synB K b)) := by cases c <;> first | rfl | exact absurd rfl hc
        rw [e2]
        by_cases hm : U.bi c a b ∈ K <;> cases hq : synB K a <;> cases hr : synB K b <;> simp [hm, hq, hr]
theorem canM_u {K : List U} (hK : KOk K) {u : U} (h : u.ok) (hs : u.size ≤ 2000000) : terms_canM.f (toKM K) u.tm = some (synB K u) := by
  unfold terms_canM.f
  show Option.bind (terms_can.f u.tm.depth u.tm (toKM K)) _ = _
  rw [can_u hK h hs (Nat.le_refl _)]; rfl
def anB (K : List U) : U → List U
  | .bi .pair a b => [a, b]
  | .bi .sign _ b => [b]
  | .bi .enc a b => if synB K a then [b] else []
  | _ => []
theorem anB_iff {K : List U} {u p : U} : p ∈ anB K u ↔ An (· ∈ K) u p := by
  cases u with
  | bi k a b =>
    cases k
    case enc =>
      cases h : synB K a
      · have : ¬ Syn (· ∈ K) a := fun hh => by rw [← synB_iff, h] at hh; cases hh
        simp [anB, An, h, this]
      · simp [anB, An, h, synB_iff.1 h]
    all_goals simp [anB, An]
  | _ => simp [anB, An]
theorem apart_u {K : List U} (hK : KOk K) {u : U} (h : u.ok) (hs : u.size ≤ 2000000) : terms_apart.f (toKM K) u.tm = some ((anB K u).map U.tm) := by
  cases u with
  | d n => rfl
  | s n => rfl
  | un k a => cases k <;> rfl
  | bi k a b =>
    simp only [U.size] at hs
    cases k
    case enc =>
      have hc := canM_u hK (u := a) h.1 (by omega)
      have e0 : (terms_canM.f (toKM K) a.tm).bind (fun t26 => some t26) = some (synB K a) := by rw [hc]; rfl
      unfold terms_apart.f
      refine (if_neg (show ¬ ((4 : Int) == 7) = true by decide)).trans ?_
      refine (congrArg (fun x => Option.bind x _) (if_neg (show ¬ ((4 : Int) == 5) = true by decide))).trans ?_
      refine (congrArg (fun x => Option.bind (Option.bind x _) _) ((if_pos (show ((4 : Int) == 4) = true by decide)).trans ((req_t (show (0 : Int) < 2 by decide)).trans e0))).trans ?_
      cases hq : synB K a <;> simp [anB, hq, U.tm, kids_mk]
      exact req_t trivial
    all_goals rfl
end Go.Proofs.YtfbogkhgfaibbaaDoor
end

section
namespace Go.Proofs.YtfbogkhgfaibbaaDoor
open Go Go.HW Go.RowKit
set_option linter.unusedVariables false
set_option linter.unusedSimpArgs false

/-! ### what learn answers with -/
theorem nodup_len {α : Type} [DecidableEq α] : ∀ {K L : List α}, K.Nodup → (∀ x ∈ K, x ∈ L) → K.length ≤ L.length
  | [], L, _, _ => Nat.zero_le _
  | x :: K, L, hn, hs => by
    have h1 := List.nodup_cons.1 hn
    have hx := hs x List.mem_cons_self
    have h2 := nodup_len (L := L.erase x) h1.2 fun y hy => (List.mem_erase_of_ne (fun e => h1.1 (by rw [← e]; exact hy))).2 (hs y (List.mem_cons_of_mem _ hy))
    rw [List.length_erase_of_mem hx] at h2
    have := List.length_pos_of_mem hx
    simp only [List.length_cons]; omega
def subs : U → List U
  | .un k a => .un k a :: subs a
  | .bi k a b => .bi k a b :: (subs a ++ subs b)
  | u => [u]
theorem subs_self (u : U) : u ∈ subs u := by cases u <;> exact List.mem_cons_self
theorem subs_trans : ∀ {u v w : U}, v ∈ subs u → w ∈ subs v → w ∈ subs u := by
  intro u
  induction u with
  | d n => intro v w h h2; simp [subs] at h; subst h; exact h2
  | s n => intro v w h h2; simp [subs] at h; subst h; exact h2
  | un k a ih =>
    intro v w h h2
    rcases List.mem_cons.1 h with rfl | h
    · exact h2
    · exact List.mem_cons_of_mem _ (ih h h2)
  | bi k a b iha ihb =>
    intro v w h h2
    rcases List.mem_cons.1 h with rfl | h
    · exact h2
    · rcases List.mem_append.1 h with h | h
      · exact List.mem_cons_of_mem _ (List.mem_append_left _ (iha h h2))
      · exact List.mem_cons_of_mem _ (List.mem_append_right _ (ihb h h2))
theorem subs_ok : ∀ {u v : U}, u.ok → v ∈ subs u → v.ok ∧ v.size ≤ u.size := by
  intro u
  induction u with
  | d n => intro v hu h; simp [subs] at h; subst h; exact ⟨hu, Nat.le_refl _⟩
  | s n => intro v hu h; simp [subs] at h; subst h; exact ⟨hu, Nat.le_refl _⟩
  | un k a ih =>
    intro v hu h
    rcases List.mem_cons.1 h with rfl | h
    · exact ⟨hu, Nat.le_refl _⟩
    · have := ih (v := v) hu h; simp only [U.size]; exact ⟨this.1, by omega⟩
  | bi k a b iha ihb =>
    intro v hu h
    rcases List.mem_cons.1 h with rfl | h
    · exact ⟨hu, Nat.le_refl _⟩
    · simp only [U.size]
      rcases List.mem_append.1 h with h | h
      · have := iha hu.1 h; exact ⟨this.1, by omega⟩
      · have := ihb hu.2 h; exact ⟨this.1, by omega⟩
theorem subs_len : ∀ (u : U), (subs u).length = u.size
  | .d _ => rfl
  | .s _ => rfl
  | .un k a => by simp [subs, U.size, subs_len a]
  | .bi k a b => by simp [subs, U.size, subs_len a, subs_len b]
theorem an_subs {S : U → Prop} {u p : U} (h : An S u p) : p ∈ subs u := by
  cases u with
  | bi k a b =>
    have ha : a ∈ subs (.bi k a b) := List.mem_cons_of_mem _ (List.mem_append_left _ (subs_self a))
    have hb : b ∈ subs (.bi k a b) := List.mem_cons_of_mem _ (List.mem_append_right _ (subs_self b))
    cases k
    case enc => rw [h.2]; exact hb
    case sign => rw [show p = b from h]; exact hb
    case pair => rcases h with rfl | rfl <;> assumption
    all_goals exact h.elim
  | _ => exact h.elim
def univ (B : List U) : List U := B.flatMap subs
theorem univ_trans {B : List U} {u v : U} (h : u ∈ univ B) (h2 : v ∈ subs u) : v ∈ univ B := by
  obtain ⟨b, hb, h3⟩ := List.mem_flatMap.1 h
  exact List.mem_flatMap.2 ⟨b, hb, subs_trans h3 h2⟩
/-- On the way from B. -/
structure KG (B K : List U) : Prop where
  nodup : K.Nodup
  sub : ∀ u ∈ K, u ∈ univ B
  base : ∀ u ∈ B, u ∈ K
  der : ∀ u ∈ K, Der (· ∈ B) u
theorem KG.step {B K : List U} (h : KG B K) {u p : U} (hu : u ∈ K) (hp : p ∈ anB K u) (hn : ¬ p ∈ K) : KG B (K ++ [p]) := by
  have ha := anB_iff.1 hp
  refine ⟨?_, ?_, fun v hv => List.mem_append_left _ (h.base v hv), ?_⟩
  · rw [List.nodup_append]
    exact ⟨h.nodup, by simp, fun a ha' b hb e => by simp only [List.mem_singleton] at hb; subst hb; subst e; exact hn ha'⟩
  · intro v hv
    rcases List.mem_append.1 hv with hv | hv
    · exact h.sub v hv
    · simp only [List.mem_singleton] at hv; subst hv; exact univ_trans (h.sub u hu) (an_subs ha)
  · intro v hv
    rcases List.mem_append.1 hv with hv | hv
    · exact h.der v hv
    · simp only [List.mem_singleton] at hv; subst hv
      exact Der.closed u (h.der u hu) v (ha.mono fun x hx => h.der x hx)
theorem KG.len {B K : List U} (h : KG B K) : K.length ≤ (univ B).length := nodup_len h.nodup h.sub
theorem KG.all {B K : List U} (h : KG B K) (hc : ClosedP (· ∈ K)) {u : U} : u ∈ K ↔ Der (· ∈ B) u := ⟨h.der u, fun hd => hd _ h.base hc⟩
theorem KG.perm {B K K' : List U} (h : KG B K) (hc : ClosedP (· ∈ K)) (h' : KG B K') (hc' : ClosedP (· ∈ K')) : K.Perm K' := by
  rw [List.perm_ext_iff_of_nodup h.nodup h'.nodup]
  intro u; rw [h.all hc, h'.all hc']
def nxt (K : List U) : Option U := (K.flatMap (anB K)).find? fun p => decide (¬ p ∈ K)
def clo : Nat → List U → List U
  | 0, K => K
  | n + 1, K => match nxt K with
    | none => K
    | some p => clo n (K ++ [p])
theorem nxt_none {K : List U} (h : nxt K = none) : ClosedP (· ∈ K) := fun u hu p hp => by
  unfold nxt at h
  rw [List.find?_eq_none] at h
  have := h p (List.mem_flatMap.2 ⟨u, hu, anB_iff.2 hp⟩)
  simpa using this
theorem clo_ok {B : List U} : ∀ {n : Nat} {K : List U}, KG B K → (univ B).length - K.length ≤ n → KG B (clo n K) ∧ ClosedP (· ∈ clo n K)
  | 0, K, h, hn => by
    refine ⟨h, fun u hu p hp => ?_⟩
    apply Classical.byContradiction
    intro hnp
    have := (h.step hu (anB_iff.2 hp) hnp).len
    simp at this; omega
  | n + 1, K, h, hn => by
    unfold clo
    cases hx : nxt K with
    | none => exact ⟨h, nxt_none hx⟩
    | some p =>
      have h1 := List.find?_some hx
      obtain ⟨u, hu, hp⟩ := List.mem_flatMap.1 (List.mem_of_find?_eq_some hx)
      have h2 := h.step hu hp (by simpa using h1)
      exact clo_ok h2 (by have := h2.len; simp at this ⊢; omega)
def baseU (K : List U) : List U → List U
  | [] => K
  | u :: us => baseU (if u.ordr ∈ K then K else K ++ [u.ordr]) us
theorem baseU_mem : ∀ {us K : List U} {v : U}, v ∈ baseU K us ↔ v ∈ K ∨ ∃ u ∈ us, v = u.ordr
  | [], K, v => by simp [baseU]
  | u :: us, K, v => by
    unfold baseU
    rw [baseU_mem]
    by_cases h : u.ordr ∈ K
    · simp only [if_pos h, List.mem_cons, exists_eq_or_imp]
      exact ⟨fun hh => hh.imp id .inr, fun hh => hh.elim .inl fun hh => hh.elim (fun e => .inl (e ▸ h)) .inr⟩
    · simp [h, or_assoc]
theorem baseU_nodup : ∀ {us K : List U}, K.Nodup → (baseU K us).Nodup
  | [], K, h => h
  | u :: us, K, h => by
    unfold baseU
    refine baseU_nodup ?_
    split
    · exact h
    · rename_i hn
      rw [List.nodup_append]
      exact ⟨h, by simp, fun a ha b hb e => by simp only [List.mem_singleton] at hb; subst hb; subst e; exact hn ha⟩
theorem baseU_KG (us : List U) : KG (baseU [] us) (baseU [] us) := ⟨baseU_nodup List.nodup_nil, fun u hu => List.mem_flatMap.2 ⟨u, hu, subs_self u⟩, fun u hu => hu, fun u hu => Der.base hu⟩
/-- What follows from these. -/
def learnU (us : List U) : List U := clo (univ (baseU [] us)).length (baseU [] us)
theorem learnU_ok (us : List U) : KG (baseU [] us) (learnU us) ∧ ClosedP (· ∈ learnU us) := clo_ok (baseU_KG us) (by omega)

/-! #### which terms fit -/
def toU : Nat → Tm → Option U
  | 0, _ => none
  | k + 1, .node (c, n) [] => if 0 ≤ n ∧ n ≤ 9223372036854775807 then (if c = 1 then some (.d n) else if c = 2 then some (.s n) else none) else none
  | k + 1, .node (c, n) [a] => if n = 0 then (if c = 3 then (toU k a).map (.un .pub) else if c = 9 then (toU k a).map (.un .hash) else none) else none
  | k + 1, .node (c, n) [a, b] => if n = 0 then (toU k a).bind fun x => (toU k b).bind fun y => if c = 4 then some (.bi .enc x y) else if c = 5 then some (.bi .sign x y) else if c = 6 then some (.bi .mac x y) else if c = 7 then some (.bi .pair x y) else if c = 8 then some (.bi .shared x y) else none else none
  | k + 1, .node (c, n) (_ :: _ :: _ :: _) => none
theorem toU_of : ∀ {u : U} {k : Nat}, u.ok → u.tm.depth ≤ k → toU k u.tm = some u := by
  intro u
  induction u with
  | d n => intro k h hk; cases k with
    | zero => simp [U.tm, depth_leaf] at hk
    | succ k => show (if 0 ≤ n ∧ n ≤ 9223372036854775807 then _ else _) = _; exact if_pos h
  | s n => intro k h hk; cases k with
    | zero => simp [U.tm, depth_leaf] at hk
    | succ k => show (if 0 ≤ n ∧ n ≤ 9223372036854775807 then _ else _) = _; exact if_pos h
  | un c a ih =>
    intro k h hk
    cases k with
    | zero => rw [U.tm, depth_un] at hk; omega
    | succ k =>
      rw [U.tm, depth_un] at hk
      have ha := ih (k := k) h (by omega)
      cases c <;> simp [U.tm, Tm.mk, toU, K1.num, ha]
  | bi c a b iha ihb =>
    intro k h hk
    cases k with
    | zero => rw [U.tm] at hk; have := depth_bi c.num 0 a.tm b.tm; omega
    | succ k =>
      rw [U.tm] at hk
      have hd := depth_bi c.num 0 a.tm b.tm
      have ha := iha (k := k) h.1 (by omega)
      have hb := ihb (k := k) h.2 (by omega)
      cases c <;> simp [U.tm, Tm.mk, toU, K2.num, ha, hb]
theorem toU_tm : ∀ {k : Nat} {t : Tm} {u : U}, toU k t = some u → u.tm = t ∧ u.ok := by
  intro k
  induction k with
  | zero => intro t u h; simp [toU] at h
  | succ k ih =>
    intro t u h
    match t, h with
    | .node (c, n) [], h =>
      simp only [toU] at h
      split at h
      · rename_i hn
        split at h
        · rename_i hc; cases h; subst hc; exact ⟨rfl, hn⟩
        · split at h
          · rename_i hc; cases h; subst hc; exact ⟨rfl, hn⟩
          · cases h
      · cases h
    | .node (c, n) [a], h =>
      simp only [toU] at h
      split at h
      · rename_i hn; subst hn
        split at h
        · rename_i hc; subst hc
          obtain ⟨x, hx, rfl⟩ := Option.map_eq_some_iff.1 h
          obtain ⟨e, ho⟩ := ih hx
          exact ⟨by rw [U.tm, e]; rfl, ho⟩
        · split at h
          · rename_i hc; subst hc
            obtain ⟨x, hx, rfl⟩ := Option.map_eq_some_iff.1 h
            obtain ⟨e, ho⟩ := ih hx
            exact ⟨by rw [U.tm, e]; rfl, ho⟩
          · cases h
      · cases h
    | .node (c, n) [a, b], h =>
      simp only [toU] at h
      split at h
      · rename_i hn; subst hn
        obtain ⟨x, hx, h⟩ := bind_some h
        obtain ⟨y, hy, h⟩ := bind_some h
        obtain ⟨e, ho⟩ := ih hx
        obtain ⟨e2, ho2⟩ := ih hy
        split at h
        · rename_i hc; cases h; subst hc; exact ⟨by rw [U.tm, e, e2]; rfl, ho, ho2⟩
        · split at h
          · rename_i hc; cases h; subst hc; exact ⟨by rw [U.tm, e, e2]; rfl, ho, ho2⟩
          · split at h
            · rename_i hc; cases h; subst hc; exact ⟨by rw [U.tm, e, e2]; rfl, ho, ho2⟩
            · split at h
              · rename_i hc; cases h; subst hc; exact ⟨by rw [U.tm, e, e2]; rfl, ho, ho2⟩
              · split at h
                · rename_i hc; cases h; subst hc; exact ⟨by rw [U.tm, e, e2]; rfl, ho, ho2⟩
                · cases h
      · cases h
    | .node (c, n) (_ :: _ :: _ :: _), h => simp [toU] at h
def goodL : List Tm → Option (List U)
  | [] => some []
  | t :: ts => (toU (Tree.depth t) t).bind fun u => if u.size ≤ 2000 then (goodL ts).map (u :: ·) else none
theorem goodL_tm : ∀ {ts : List Tm} {us : List U}, goodL ts = some us → ts = us.map U.tm ∧ ∀ u ∈ us, u.ok ∧ u.size ≤ 2000
  | [], us, h => by cases h; exact ⟨rfl, fun u hu => by cases hu⟩
  | t :: ts, us, h => by
    obtain ⟨u, hu, h⟩ := bind_some (show (toU (Tree.depth t) t).bind _ = _ from h)
    split at h
    · rename_i hs
      obtain ⟨vs, hv, rfl⟩ := Option.map_eq_some_iff.1 h
      obtain ⟨e, ho⟩ := goodL_tm hv
      obtain ⟨e2, ho2⟩ := toU_tm hu
      refine ⟨by rw [e, List.map_cons, e2], fun v hv => ?_⟩
      rcases List.mem_cons.1 hv with rfl | hv
      · exact ⟨ho2, hs⟩
      · exact ho v hv
    · cases h
/-! #### learn -/
def terms_learn.f (a0 : List Tm) : Option KM := if a0.length ≤ 500 then (goodL a0).map fun us => toKM (learnU us) else none
theorem learnIn_u : ∀ {us K : List U}, KOk K → (∀ u ∈ us, u.ok ∧ u.size ≤ 2000) → learnIn (us.map U.tm) (toKM K) = some (toKM (baseU K us))
  | [], K, _, _ => rfl
  | u :: us, K, hK, h => by
    have hu := h u List.mem_cons_self
    show (terms_order.f (Tm.fuel u.tm) u.tm).bind _ = _
    rw [orderd hu.1 (by omega)]
    show (terms_text.f (Tm.fuel u.ordr.tm) u.ordr.tm).bind _ = _
    rw [textd (ordr_ok hu.1) (by rw [ordr_size]; omega)]
    show learnIn (us.map U.tm) (kset u.ordr.txt u.ordr.tm (toKM K)) = _
    rw [kset_u hK (ordr_ok hu.1)]
    refine learnIn_u ?_ fun v hv => h v (List.mem_cons_of_mem _ hv)
    intro v hv
    split at hv
    · exact hK v hv
    · rcases List.mem_append.1 hv with hv | hv
      · exact hK v hv
      · simp only [List.mem_singleton] at hv; subst hv; exact ordr_ok hu.1
def LearnG (B : List U) (K : KM) (n : Nat) : Prop := ∃ KU, K = toKM KU ∧ KG B KU ∧ n = (univ B).length - KU.length
theorem univ_ok {B : List U} (hB : ∀ u ∈ B, u.ok ∧ u.size ≤ 2000) {u : U} (h : u ∈ univ B) : u.ok ∧ u.size ≤ 2000 := by
  obtain ⟨b, hb, h⟩ := List.mem_flatMap.1 h
  have := subs_ok (hB b hb).1 h
  exact ⟨this.1, by have := (hB b hb).2; omega⟩
theorem univ_len {B : List U} (hB : ∀ u ∈ B, u.ok ∧ u.size ≤ 2000) : (univ B).length ≤ 2000 * B.length := by
  induction B with
  | nil => simp [univ]
  | cons b B ih =>
    have h1 := ih fun u hu => hB u (List.mem_cons_of_mem _ hu)
    have h2 := (hB b List.mem_cons_self).2
    unfold univ at h1 ⊢
    rw [List.flatMap_cons, List.length_append, subs_len, List.length_cons]; omega
theorem toKM_nodup {K : List U} (hK : KOk K) (hn : K.Nodup) : ((toKM K).map Prod.fst).Nodup := by
  unfold toKM
  rw [List.map_map]
  show (K.map U.txt).Nodup
  induction K with
  | nil => exact List.nodup_nil
  | cons u K ih =>
    have h1 := List.nodup_cons.1 hn
    rw [List.map_cons, List.nodup_cons]
    refine ⟨fun hm => ?_, ih (fun v hv => hK v (List.mem_cons_of_mem _ hv)) h1.2⟩
    obtain ⟨v, hv, e⟩ := List.mem_map.1 hm
    exact h1.1 (txt_inj (hK v (List.mem_cons_of_mem _ hv)) (hK u List.mem_cons_self) e ▸ hv)
theorem KG.kok {B K : List U} (h : KG B K) (hB : ∀ u ∈ B, u.ok ∧ u.size ≤ 2000) : KOk K := fun u hu => (univ_ok hB (h.sub u hu)).1
theorem learns {B : List U} (hB : ∀ u ∈ B, u.ok ∧ u.size ≤ 2000) (hl : B.length ≤ 500) : Learns (LearnG B) where
  step := by
    rintro K n t ⟨KU, rfl, hg, rfl⟩ ht
    have hk := hg.kok hB
    simp only [toKM, List.map_map, List.mem_map, Function.comp] at ht
    obtain ⟨u, hu, rfl⟩ := ht
    have ho := univ_ok hB (hg.sub u hu)
    refine ⟨_, apart_u hk ho.1 (by omega), ?_, ?_⟩
    · have : (anB KU u).length ≤ 2 := by
        cases u with
        | bi k a b => cases k <;> simp [anB]; split <;> simp
        | _ => simp [anB]
      simp only [List.length_map]; omega
    · intro p hp
      obtain ⟨v, hv, rfl⟩ := List.mem_map.1 hp
      have hvo := univ_ok hB (univ_trans (hg.sub u hu) (an_subs (anB_iff.1 hv)))
      refine ⟨v.txt, textd hvo.1 (by omega), fun h0 => ?_⟩
      rw [kget0 hk hvo.1] at h0
      have hn : ¬ v ∈ KU := by simpa using h0
      have h2 := hg.step hu hv hn
      refine ⟨_, ?_, _, by rw [kset_u hk hvo.1, if_neg hn], h2, rfl⟩
      have := h2.len; simp at this ⊢; omega
  len := by
    rintro K n ⟨KU, rfl, hg, rfl⟩
    have := hg.len
    have := univ_len hB
    simp only [toKM, List.length_map]; omega
  nodup := by
    rintro K n ⟨KU, rfl, hg, rfl⟩
    exact toKM_nodup (hg.kok hB) hg.nodup
theorem baseU_len : ∀ {us K : List U}, (baseU K us).length ≤ K.length + us.length
  | [], K => by simp [baseU]
  | u :: us, K => by
    unfold baseU
    refine Nat.le_trans baseU_len ?_
    split <;> simp <;> omega
theorem closed_u {B KU : List U} (hB : ∀ u ∈ B, u.ok ∧ u.size ≤ 2000) (hg : KG B KU) (hc : Closed (toKM KU)) : ClosedP (· ∈ KU) := fun u hu p hp => by
  have hk := hg.kok hB
  have ho := univ_ok hB (hg.sub u hu)
  have hpo := univ_ok hB (univ_trans (hg.sub u hu) (an_subs hp))
  have := hc u.tm (by simp only [toKM, List.map_map, List.mem_map, Function.comp]; exact ⟨u, hu, rfl⟩) _ (apart_u hk ho.1 (by omega)) p.tm (List.mem_map.2 ⟨p, anB_iff.2 hp, rfl⟩) _ (textd hpo.1 (by omega))
  rw [kget0 hk hpo.1] at this
  simpa using this
theorem base_ok {us : List U} (h : ∀ u ∈ us, u.ok ∧ u.size ≤ 2000) : ∀ u ∈ baseU [] us, u.ok ∧ u.size ≤ 2000 := fun u hu => by
  rcases baseU_mem.1 hu with hu | ⟨v, hv, rfl⟩
  · cases hu
  · exact ⟨ordr_ok (h v hv).1, by rw [ordr_size]; exact (h v hv).2⟩
theorem terms_learn.ok {a0 : List Tm} {a0_v : Value} {r : KM} (h : terms_learn.f a0 = some r) {M : Mem} (w : World) (hM : Ext M (heapOf w)) (hG : Glob M) (hr_a0 : RowS ShTm M a0_v a0) : Calls Tryd.prog 37 #[a0_v] w (PostF (G := Nat) (fun g => .map (some g)) (fun g M_ => KMap ShTm M_ g r) M w) := by
  unfold terms_learn.f at h
  split at h
  · rename_i hl
    obtain ⟨us, hus, rfl⟩ := Option.map_eq_some_iff.1 h
    obtain ⟨rfl, ho⟩ := goodL_tm hus
    have hB := base_ok ho
    have hbl : (baseU [] us).length ≤ 500 := by
      have := baseU_len (us := us) (K := [])
      simp at this hl; omega
    have hin : learnIn (us.map U.tm) [] = some (toKM (baseU [] us)) := learnIn_u (K := []) (fun u hu => by cases hu) ho
    refine (learn_ok (learns hB hbl) (by omega) hin ⟨_, rfl, baseU_KG us, rfl⟩ w hM hG hr_a0).mono ?_
    rintro e w' ⟨g, M', he, ⟨K, n, ⟨KU, rfl, hg, _⟩, hc, o, K', h1, h2, h3, h4⟩, hx, hnew, himm, hbel⟩
    have hl := learnU_ok us
    exact ⟨g, M', he, ⟨o, K', h1, h2, h3, h4.trans ((hg.perm (closed_u hB hg hc) hl.1 hl.2).map _)⟩, hx, hnew, himm, hbel⟩
  · cases h
end Go.Proofs.YtfbogkhgfaibbaaDoor
end
