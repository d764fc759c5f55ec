import Derived.Test.YtfbogkhgfaibbaaDoorTmMap
import Derived.Lib.ItoaNum
import Derived.Lib.ItoaLen
namespace Go.Proofs.YtfbogkhgfaibbaaDoor
open Go Go.HW Go.RowKit
set_option linter.unusedVariables false
set_option linter.unusedSimpArgs false

/-! ### numerals -/
def isDig (b : UInt8) : Prop := 48 ≤ b.toNat ∧ b.toNat ≤ 57
theorem ofNat_dig {k : Nat} (h : k < 10) : (UInt8.ofNat (48 + k)).toNat = 48 + k := by
  rw [UInt8.toNat_ofNat']; omega
theorem decDigits_dig (u : Nat) : ∀ b ∈ Lib.decDigits u, isDig b := by
  induction u using Nat.strongRecOn with
  | _ u ih =>
    intro b hb
    rw [Lib.decDigits] at hb
    split at hb
    · rename_i h
      simp only [List.mem_singleton] at hb; subst hb
      unfold isDig; rw [ofNat_dig h]; omega
    · rename_i h
      rcases List.mem_append.1 hb with hb | hb
      · exact ih _ (by omega) b hb
      · simp only [List.mem_singleton] at hb; subst hb
        unfold isDig; rw [ofNat_dig (by omega)]; omega
theorem decDigits_ne (u : Nat) : Lib.decDigits u ≠ [] := by
  rw [Lib.decDigits]; split <;> simp
theorem decDigits_inj : ∀ {u v : Nat}, Lib.decDigits u = Lib.decDigits v → u = v := by
  intro u
  induction u using Nat.strongRecOn with
  | _ u ih =>
    intro v h
    rw [Lib.decDigits] at h
    conv at h => rhs; rw [Lib.decDigits]
    split at h <;> split at h
    · rename_i h1 h2
      have := congrArg (fun l => (l.headD 0).toNat) h
      simp only [List.headD_cons] at this
      rw [ofNat_dig h1, ofNat_dig h2] at this; omega
    · have := congrArg List.length h
      simp at this; exact absurd this (decDigits_ne _)
    · have := congrArg List.length h
      simp at this; exact absurd this (decDigits_ne _)
    · rename_i h1 h2
      obtain ⟨e1, e2⟩ := List.append_inj' h rfl
      have e3 := ih _ (by omega) e1
      have := congrArg (fun l => (l.headD 0).toNat) e2
      simp only [List.headD_cons] at this
      rw [ofNat_dig (by omega), ofNat_dig (by omega)] at this; omega
theorem itoa_dig {n : Int} (h : 0 ≤ n) : ∀ b ∈ Lib.itoa n, isDig b := by
  unfold Lib.itoa; rw [if_neg (by omega)]; exact decDigits_dig _
theorem itoa_ne {n : Int} (h : 0 ≤ n) : Lib.itoa n ≠ [] := by
  unfold Lib.itoa; rw [if_neg (by omega)]; exact decDigits_ne _
theorem itoa_inj {n m : Int} (h : 0 ≤ n) (h' : 0 ≤ m) (e : Lib.itoa n = Lib.itoa m) : n = m := by
  unfold Lib.itoa at e; rw [if_neg (by omega), if_neg (by omega)] at e
  have := decDigits_inj e; omega
/-- What follows a term's text. -/
def Stops (r : List UInt8) : Prop := r = [] ∨ ∃ c t, r = c :: t ∧ (c = 44 ∨ c = 41)
theorem Stops.nodig {r : List UInt8} (h : Stops r) {b : UInt8} {t : List UInt8} (e : r = b :: t) : ¬ isDig b := by
  rcases h with h | ⟨c, t', h, hc⟩
  · rw [h] at e; cases e
  · rw [h] at e; cases e
    unfold isDig
    rcases hc with rfl | rfl <;> decide
theorem split_dig : ∀ {xs ys r r' : List UInt8}, (∀ b ∈ xs, isDig b) → (∀ b ∈ ys, isDig b) → Stops r → Stops r' → xs ++ r = ys ++ r' → xs = ys ∧ r = r'
  | [], [], r, r', _, _, _, _, h => ⟨rfl, by simpa using h⟩
  | [], y :: ys, r, r', _, h2, h3, _, h => absurd (h2 y List.mem_cons_self) (h3.nodig (by simpa using h))
  | x :: xs, [], r, r', h1, _, _, h4, h => absurd (h1 x List.mem_cons_self) (h4.nodig (by simpa using h.symm))
  | x :: xs, y :: ys, r, r', h1, h2, h3, h4, h => by
    simp only [List.cons_append, List.cons.injEq] at h
    obtain ⟨e1, e2⟩ := split_dig (fun b hb => h1 b (List.mem_cons_of_mem _ hb)) (fun b hb => h2 b (List.mem_cons_of_mem _ hb)) h3 h4 h.2
    exact ⟨by rw [h.1, e1], e2⟩

/-! ### terms that fit -/
inductive K1 where | pub | hash
  deriving DecidableEq
inductive K2 where | enc | sign | mac | pair | shared
  deriving DecidableEq
inductive U where
  | d (n : Int)
  | s (n : Int)
  | un (k : K1) (a : U)
  | bi (k : K2) (a b : U)
  deriving DecidableEq
def K1.num : K1 → Int | .pub => 3 | .hash => 9
def K2.num : K2 → Int | .enc => 4 | .sign => 5 | .mac => 6 | .pair => 7 | .shared => 8
def K1.name : K1 → List UInt8 | .pub => [112, 117, 98, 108, 105, 99] | .hash => [104, 97, 115, 104]
def K2.name : K2 → List UInt8 | .enc => [115, 101, 97, 108] | .sign => [115, 105, 103, 110] | .mac => [109, 97, 99] | .pair => [112, 97, 105, 114] | .shared => [115, 104, 97, 114, 101, 100]
def U.tm : U → Tm
  | .d n => Tm.mk 1 n []
  | .s n => Tm.mk 2 n []
  | .un k a => Tm.mk k.num 0 [a.tm]
  | .bi k a b => Tm.mk k.num 0 [a.tm, b.tm]
def U.size : U → Nat
  | .d _ => 1
  | .s _ => 1
  | .un _ a => a.size + 1
  | .bi _ a b => a.size + b.size + 1
def U.ok : U → Prop
  | .d n => 0 ≤ n ∧ n ≤ 9223372036854775807
  | .s n => 0 ≤ n ∧ n ≤ 9223372036854775807
  | .un _ a => a.ok
  | .bi _ a b => a.ok ∧ b.ok
def U.txt : U → List UInt8
  | .d n => 100 :: Lib.itoa n
  | .s n => 115 :: Lib.itoa n
  | .un k a => k.name ++ 40 :: (a.txt ++ [41])
  | .bi k a b => k.name ++ 40 :: (a.txt ++ 44 :: (b.txt ++ [41]))
theorem U.txt_len : ∀ {u : U}, u.ok → u.txt.length ≤ 30 * u.size
  | .d n, h => by have := Lib.itoa_length_le n (by have := h.1; omega) h.2; simp [U.txt, U.size]; omega
  | .s n, h => by have := Lib.itoa_length_le n (by have := h.1; omega) h.2; simp [U.txt, U.size]; omega
  | .un k a, h => by
    have := U.txt_len (u := a) h
    have hk : k.name.length ≤ 6 := by cases k <;> decide
    simp [U.txt, U.size]; omega
  | .bi k a b, h => by
    have h1 := U.txt_len h.1
    have h2 := U.txt_len h.2
    have hk : k.name.length ≤ 6 := by cases k <;> decide
    simp [U.txt, U.size]; omega
theorem dig_ne {n : Int} (hn : 0 ≤ n) {c : UInt8} {r r' : List UInt8} (hc : ¬ isDig c) (h : Lib.itoa n ++ r = c :: r') : False := by
  cases h1 : Lib.itoa n with
  | nil => exact itoa_ne hn h1
  | cons b t =>
    rw [h1] at h
    simp only [List.cons_append, List.cons.injEq] at h
    have := itoa_dig hn b (by rw [h1]; exact List.mem_cons_self)
    rw [h.1] at this; exact hc this
theorem dig_ne' {n : Int} (hn : 0 ≤ n) {c : UInt8} {r r' : List UInt8} (hc : ¬ isDig c) (h : c :: r' = Lib.itoa n ++ r) : False := dig_ne hn hc h.symm
theorem st44 (r : List UInt8) : Stops (44 :: r) := .inr ⟨44, r, rfl, .inl rfl⟩
theorem st41 (r : List UInt8) : Stops (41 :: r) := .inr ⟨41, r, rfl, .inr rfl⟩
theorem nd101 : ¬ isDig 101 := by unfold isDig; decide
theorem nd104 : ¬ isDig 104 := by unfold isDig; decide
theorem nd105 : ¬ isDig 105 := by unfold isDig; decide
/-- A text is read in one way. -/
theorem txt_split : ∀ {u v : U} {r r' : List UInt8}, u.ok → v.ok → Stops r → Stops r' → u.txt ++ r = v.txt ++ r' → u = v ∧ r = r' := by
  intro u
  induction u with
  | d n =>
    intro v r r' hu hv h1 h2 h
    cases v with
    | d m =>
      simp only [U.txt, List.cons_append, List.cons.injEq, true_and] at h
      obtain ⟨e, e2⟩ := split_dig (itoa_dig hu.1) (itoa_dig hv.1) h1 h2 h
      exact ⟨by rw [itoa_inj hu.1 hv.1 e], e2⟩
    | s m => simp [U.txt] at h
    | un k a => cases k <;> simp [U.txt, K1.name] at h
    | bi k a b => cases k <;> simp [U.txt, K2.name] at h
  | s n =>
    intro v r r' hu hv h1 h2 h
    cases v with
    | d m => simp [U.txt] at h
    | s m =>
      simp only [U.txt, List.cons_append, List.cons.injEq, true_and] at h
      obtain ⟨e, e2⟩ := split_dig (itoa_dig hu.1) (itoa_dig hv.1) h1 h2 h
      exact ⟨by rw [itoa_inj hu.1 hv.1 e], e2⟩
    | un k a => cases k <;> simp [U.txt, K1.name] at h
    | bi k a b =>
      cases k <;> simp only [U.txt, K2.name, List.cons_append, List.cons.injEq, true_and] at h
      · exact (dig_ne hu.1 nd101 h).elim
      · exact (dig_ne hu.1 nd105 h).elim
      · simp at h
      · simp at h
      · exact (dig_ne hu.1 nd104 h).elim
  | un k a ih =>
    intro v r r' hu hv h1 h2 h
    cases v with
    | d m => cases k <;> simp [U.txt, K1.name] at h
    | s m => cases k <;> simp [U.txt, K1.name] at h
    | un k' a' =>
      cases k <;> cases k' <;> simp [U.txt, K1.name] at h
      all_goals
        obtain ⟨e, e2⟩ := ih (v := a') hu hv (st41 _) (st41 _) h
        exact ⟨by rw [e], by simpa using e2⟩
    | bi k' a' b' => cases k <;> cases k' <;> simp [U.txt, K1.name, K2.name] at h
  | bi k a b iha ihb =>
    intro v r r' hu hv h1 h2 h
    cases v with
    | d m => cases k <;> simp [U.txt, K2.name] at h
    | s m =>
      cases k <;> simp only [U.txt, K2.name, List.cons_append, List.cons.injEq, true_and] at h
      · exact (dig_ne' hv.1 nd101 h).elim
      · exact (dig_ne' hv.1 nd105 h).elim
      · simp at h
      · simp at h
      · exact (dig_ne' hv.1 nd104 h).elim
    | un k' a' => cases k <;> cases k' <;> simp [U.txt, K1.name, K2.name] at h
    | bi k' a' b' =>
      cases k <;> cases k' <;> simp [U.txt, K2.name] at h
      all_goals
        obtain ⟨e, e2⟩ := iha hu.1 hv.1 (st44 _) (st44 _) h
        simp only [List.cons.injEq, true_and] at e2
        obtain ⟨e3, e4⟩ := ihb hu.2 hv.2 (st41 _) (st41 _) e2
        exact ⟨by rw [e, e3], by simpa using e4⟩
theorem txt_inj {u v : U} (hu : u.ok) (hv : v.ok) (h : u.txt = v.txt) : u = v :=
  (txt_split (r := []) (r' := []) hu hv (.inl rfl) (.inl rfl) (by rw [h])).1
/-! ### order -/
/-- A term whose shared keys stand in order. -/
def U.ordr : U → U
  | .un k a => .un k a.ordr
  | .bi k a b => if k = .shared ∧ (lessL a.ordr.txt b.ordr.txt || a.ordr.txt == b.ordr.txt) = false then .bi k b.ordr a.ordr else .bi k a.ordr b.ordr
  | u => u
theorem ordr_size : ∀ (u : U), u.ordr.size = u.size
  | .d _ => rfl
  | .s _ => rfl
  | .un k a => by simp only [U.ordr, U.size, ordr_size a]
  | .bi k a b => by
    unfold U.ordr
    split <;> simp only [U.size, ordr_size a, ordr_size b]; omega
theorem ordr_ok : ∀ {u : U}, u.ok → u.ordr.ok
  | .d _, h => h
  | .s _, h => h
  | .un k a, h => ordr_ok (u := a) h
  | .bi k a b, h => by
    unfold U.ordr
    split
    · exact ⟨ordr_ok h.2, ordr_ok h.1⟩
    · exact ⟨ordr_ok h.1, ordr_ok h.2⟩

/-! ### what follows from what -/
/-- What can be put together out of S. -/
def Syn (S : U → Prop) : U → Prop
  | .d _ => True
  | .s n => S (.s n)
  | .un k a => S (.un k a) ∨ Syn S a
  | .bi .shared a b => S (.bi .shared a b) ∨ (Syn S a ∧ (Syn S b ∨ S (.un .pub b))) ∨ (Syn S b ∧ S (.un .pub a))
  | .bi k a b => S (.bi k a b) ∨ (Syn S a ∧ Syn S b)
theorem Syn.of {S : U → Prop} : ∀ {u : U}, S u → Syn S u
  | .d _, _ => trivial
  | .s _, h => h
  | .un _ _, h => .inl h
  | .bi k _ _, h => by cases k <;> exact .inl h
theorem Syn.mono {S T : U → Prop} (hS : ∀ u, S u → T u) : ∀ {u : U}, Syn S u → Syn T u
  | .d _, _ => trivial
  | .s _, h => hS _ h
  | .un _ a, h => h.imp (hS _) fun x => Syn.mono hS x
  | .bi k a b, h => by
    have ha := fun x => Syn.mono hS (u := a) x
    have hb := fun x => Syn.mono hS (u := b) x
    cases k
    case shared => exact h.imp (hS _) (Or.imp (fun ⟨x, y⟩ => ⟨ha x, y.imp hb (hS _)⟩) fun ⟨x, y⟩ => ⟨hb x, hS _ y⟩)
    all_goals exact h.imp (hS _) fun ⟨x, y⟩ => ⟨ha x, hb y⟩
/-- Put together out of what is put together. -/
theorem Syn.idem {S : U → Prop} : ∀ {u : U}, Syn (Syn S) u → Syn S u
  | .d _, _ => trivial
  | .s _, h => h
  | .un _ a, h => h.elim id fun x => .inr (Syn.idem x)
  | .bi k a b, h => by
    have ha := fun x => Syn.idem (S := S) (u := a) x
    have hb := fun x => Syn.idem (S := S) (u := b) x
    cases k
    case shared =>
      rcases h with h | ⟨x, y⟩ | ⟨x, y⟩
      · exact h
      · refine .inr ?_
        rcases y with y | y
        · exact .inl ⟨ha x, .inl (hb y)⟩
        · rcases (show S (.un .pub b) ∨ Syn S b from y) with y | y
          · exact .inl ⟨ha x, .inr y⟩
          · exact .inl ⟨ha x, .inl y⟩
      · refine .inr ?_
        rcases (show S (.un .pub a) ∨ Syn S a from y) with y | y
        · exact .inr ⟨hb x, y⟩
        · exact .inl ⟨y, .inl (hb x)⟩
    all_goals exact h.elim id fun ⟨x, y⟩ => .inr ⟨ha x, hb y⟩
/-- What one takes apart. -/
def An (S : U → Prop) : U → U → Prop
  | .bi .pair a b, p => p = a ∨ p = b
  | .bi .sign _ b, p => p = b
  | .bi .enc a b, p => Syn S a ∧ p = b
  | _, _ => False
theorem An.mono {S T : U → Prop} (hS : ∀ u, S u → T u) {u p : U} (h : An S u p) : An T u p := by
  cases u with
  | bi k a b =>
    cases k
    case enc => exact ⟨h.1.mono hS, h.2⟩
    all_goals exact h
  | _ => exact h
def ClosedP (S : U → Prop) : Prop := ∀ u, S u → ∀ p, An S u p → S p
/-- What follows from B. -/
def Der (B : U → Prop) (u : U) : Prop := ∀ S, (∀ u, B u → S u) → ClosedP S → S u
theorem Der.base {B : U → Prop} {u : U} (h : B u) : Der B u := fun S hB _ => hB u h
theorem Der.closed {B : U → Prop} : ClosedP (Der B) := fun u hu p hp S hB hS => hS u (hu S hB hS) p (hp.mono fun v hv => hv S hB hS)
theorem Der.mono {B C : U → Prop} (h : ∀ u, B u → C u) {u : U} (hd : Der B u) : Der C u := fun S hC hS => hd S (fun u hu => hC u (h u hu)) hS
/-- The synthesis of what is closed is closed. -/
theorem Syn.closed {S : U → Prop} (hS : ClosedP S) : ClosedP (Syn S) := fun u hu p hp => by
  cases u with
  | bi k a b =>
    cases k
    case pair =>
      rcases hu with hu | ⟨x, y⟩
      · exact Syn.of (hS _ hu p hp)
      · rcases hp with rfl | rfl <;> assumption
    case sign =>
      rcases hu with hu | ⟨x, y⟩
      · exact Syn.of (hS _ hu p hp)
      · obtain rfl : p = b := hp; exact y
    case enc =>
      rcases hu with hu | ⟨x, y⟩
      · exact Syn.of (hS _ hu p ⟨Syn.idem hp.1, hp.2⟩)
      · obtain rfl : p = b := hp.2; exact y
    all_goals exact hp.elim
  | _ => exact hp.elim
/-- The cut. -/
theorem Der.cut {B C : U → Prop} (h : ∀ u, C u → Syn (Der B) u) {t : U} (hd : Syn (Der C) t) : Syn (Der B) t :=
  Syn.idem (hd.mono fun u hu => hu _ h (Syn.closed Der.closed))
theorem Der.pair {B : U → Prop} {a b : U} : Syn (Der B) (.bi .pair a b) ↔ Syn (Der B) a ∧ Syn (Der B) b :=
  ⟨fun h => h.elim (fun h => ⟨Syn.of (Der.closed _ h a (.inl rfl)), Syn.of (Der.closed _ h b (.inr rfl))⟩) id, .inr⟩
end Go.Proofs.YtfbogkhgfaibbaaDoor
