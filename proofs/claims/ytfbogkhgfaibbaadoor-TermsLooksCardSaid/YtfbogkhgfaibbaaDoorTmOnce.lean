import Derived.Test.YtfbogkhgfaibbaaDoorTmOf3
import Derived.Test.YtfbogkhgfaibbaaDoorTmY
import Derived.Test.YtfbogkhgfaibbaaDoorHw26
import Derived.Test.YtfbogkhgfaibbaaDoorTa8
import Derived.Test.YtfbogkhgfaibbaaDoorTb1
section
namespace Go.Proofs.YtfbogkhgfaibbaaDoor
open Go Go.HW Go.RowKit
set_option linter.unusedVariables false
set_option linter.unusedSimpArgs false

/-! ### the reference's numbers -/
theorem wu64 {n : Int} (h0 : 0 ≤ n) (h1 : n < 18446744073709551616) : IntKind.u64.wrap n = n := by
  have : IntKind.u64.wrap n = n % 18446744073709551616 := by simp [IntKind.wrap, IntKind.bits, IntKind.signed]
  omega
theorem wu8 {n : Int} (h0 : 0 ≤ n) (h1 : n < 256) : IntKind.u8.wrap n = n := by
  have : IntKind.u8.wrap n = n % 256 := by simp [IntKind.wrap, IntKind.bits, IntKind.signed]
  omega
theorem nat_L0_total {s : List UInt8} (hs : s.length ≤ 1000000) (m : Int) : ∀ (k i : Nat) (x : Int), i ≤ s.length → s.length - i < k → (∃ y, ref29_natural.L0 s m k x (i : Int) = some (.inl y)) ∨ ref29_natural.L0 s m k x (i : Int) = some (.inr (0, false))
  | 0, i, x, _, h => by omega
  | k + 1, i, x, hi, h => by
    rw [ref29_natural.L0]
    rcases Nat.lt_or_ge i s.length with c | c
    · have c' : (i : Int) < (s.length : Int) := by omega
      rw [if_pos (decide_eq_true c'), reqT (by omega), reqT c', wrap_succ (by omega)]
      have e : ∀ {β : Type} (F : Bool → Option β), (if decide (chr s (i : Int).toNat < 48) = true then some true else some (decide (57 < chr s (i : Int).toNat))).bind F = F (decide (chr s (i : Int).toNat < 48) || decide (57 < chr s (i : Int).toNat)) := fun F => by
        cases decide (chr s (i : Int).toNat < 48) <;> rfl
      rw [e]
      split
      · exact .inr rfl
      · simp only [nm]
        split
        · exact .inr rfl
        · exact nat_L0_total hs m k (i + 1) _ (by omega) (by omega)
    · have c' : ¬ (i : Int) < (s.length : Int) := by omega
      rw [if_neg (by simpa using c)]
      exact .inl ⟨x, rfl⟩
theorem nat_total {s : List UInt8} (hs : s.length ≤ 1000000) (m : Int) : ∃ n b, ref29_natural.f s m = some (n, b) := by
  unfold ref29_natural.f
  cases hq : (s == ([] : List UInt8)) with
  | true => exact ⟨0, false, rfl⟩
  | false =>
    have hpos : 0 < s.length := by
      cases s with
      | nil => cases hq
      | cons => simp
    simp only [Bool.false_eq_true, if_false]
    rcases nat_L0_total hs m ((s.length : Int).toNat + 1) 0 0 (by omega) (by omega) with ⟨y, h⟩ | h
    · rw [show ((0 : Nat) : Int) = 0 from rfl] at h
      rw [h]
      split
      · rw [reqT (by omega)]
        simp only [Option.bind_some]
        split
        · exact ⟨_, _, rfl⟩
        · exact ⟨_, _, rfl⟩
      · exact ⟨_, _, rfl⟩
    · rw [show ((0 : Nat) : Int) = 0 from rfl] at h
      rw [h]
      split
      · rw [reqT (by omega)]
        simp only [Option.bind_some]
        split
        · exact ⟨_, _, rfl⟩
        · exact ⟨_, _, rfl⟩
      · exact ⟨_, _, rfl⟩
theorem nat_L0_val {s : List UInt8} (hs : s.length ≤ 1000000) (hd : ∀ b ∈ s, isDig b) : ∀ (k i x : Nat), i ≤ s.length → s.length - i < k → valL x (s.drop i) ≤ 9223372036854775807 → ref29_natural.L0 s 9223372036854775807 k (x : Int) (i : Int) = some (.inl ((valL x (s.drop i) : Nat) : Int))
  | 0, i, x, _, h, _ => by omega
  | k + 1, i, x, hi, h, hv => by
    rw [ref29_natural.L0]
    rcases Nat.lt_or_ge i s.length with c | c
    · have c' : (i : Int) < (s.length : Int) := by omega
      have hdr : s.drop i = s[i] :: s.drop (i + 1) := List.drop_eq_getElem_cons c
      have hg : chr s (i : Int).toNat = ((s[i]).toNat : Int) := by unfold chr; rw [Int.toNat_natCast]; simp [c]
      have hb := hd s[i] (List.getElem_mem c)
      unfold isDig at hb
      rw [hdr] at hv
      have hv' : valL (10 * x + ((s[i]).toNat - 48)) (s.drop (i + 1)) ≤ 9223372036854775807 := hv
      have hle := valL_le (s.drop (i + 1)) (10 * x + ((s[i]).toNat - 48))
      rw [if_pos (decide_eq_true c'), reqT (by omega), reqT c', wrap_succ (by omega), hg]
      have d1 : decide (((s[i]).toNat : Int) < 48) = false := decide_eq_false (by omega)
      have d2 : decide ((57 : Int) < ((s[i]).toNat : Int)) = false := decide_eq_false (by omega)
      rw [d1, d2]
      simp only [Bool.false_eq_true, if_false, Option.bind_some, nm]
      have w1 : IntKind.u64.wrap (IntKind.u8.wrap (((s[i]).toNat : Int) - 48)) = (((s[i]).toNat - 48 : Nat) : Int) := by
        rw [wu8 (by omega) (by omega), wu64 (by omega) (by omega)]; omega
      rw [w1]
      have w2 : IntKind.u64.wrap (Int.tdiv (IntKind.u64.wrap (9223372036854775807 - (((s[i]).toNat - 48 : Nat) : Int))) 10) = (9223372036854775807 - (((s[i]).toNat - 48 : Nat) : Int)) / 10 := by
        rw [wu64 (n := 9223372036854775807 - (((s[i]).toNat - 48 : Nat) : Int)) (by omega) (by omega), Int.tdiv_eq_ediv_of_nonneg (by omega), wu64 (by omega) (by omega)]
      rw [w2]
      have d3 : decide ((9223372036854775807 - (((s[i]).toNat - 48 : Nat) : Int)) / 10 < (x : Int)) = false := decide_eq_false (by omega)
      rw [d3]
      simp only [Bool.false_eq_true, if_false]
      have w3 : IntKind.u64.wrap ((IntKind.u64.wrap (10 * (x : Int))) + (((s[i]).toNat - 48 : Nat) : Int)) = ((10 * x + ((s[i]).toNat - 48) : Nat) : Int) := by
        rw [wu64 (n := 10 * (x : Int)) (by omega) (by omega), wu64 (by omega) (by omega)]; omega
      rw [w3, nat_L0_val hs hd k (i + 1) _ (by omega) (by omega) hv', hdr]; rfl
    · rw [if_neg (by simpa using c), List.drop_eq_nil_of_le c]; rfl
theorem dec_head : ∀ (u : Nat), 10 ≤ u → ∃ c t, Lib.decDigits u = c :: t ∧ c.toNat ≠ 48 := by
  intro u
  induction u using Nat.strongRecOn with
  | _ u ih =>
    intro h
    rw [Lib.decDigits, dif_neg (by omega : ¬ u < 10)]
    rcases Nat.lt_or_ge (u / 10) 10 with c | c
    · refine ⟨UInt8.ofNat (48 + u / 10), [UInt8.ofNat (48 + u % 10)], ?_, ?_⟩
      · rw [Lib.decDigits, dif_pos c]; rfl
      · rw [ofNat_dig c]; omega
    · obtain ⟨d, t, e, hd⟩ := ih (u / 10) (by omega) c
      exact ⟨d, t ++ [UInt8.ofNat (48 + u % 10)], by rw [e]; rfl, hd⟩
theorem itoa_lead {n : Int} (h : 0 ≤ n) : (Lib.itoa n).length = 1 ∨ ∃ c t, Lib.itoa n = c :: t ∧ c.toNat ≠ 48 := by
  unfold Lib.itoa; rw [if_neg (by omega)]
  rcases Nat.lt_or_ge n.toNat 10 with c | c
  · left; rw [Lib.decDigits, dif_pos c]; rfl
  · exact .inr (dec_head _ c)
theorem natural_itoa {n : Int} (h0 : 0 ≤ n) (h1 : n ≤ 9223372036854775807) (hl : (Lib.itoa n).length ≤ 1000000) : ref29_natural.f (Lib.itoa n) 9223372036854775807 = some (n, true) := by
  have hv := itoa_val h0
  have hL := nat_L0_val hl (itoa_dig h0) (((Lib.itoa n).length : Int).toNat + 1) 0 0 (by omega) (by omega) (by rw [List.drop_zero]; omega)
  rw [List.drop_zero, hv] at hL
  unfold ref29_natural.f
  have hne : (Lib.itoa n == ([] : List UInt8)) = false := by
    cases hq : Lib.itoa n with
    | nil => exact absurd hq (itoa_ne h0)
    | cons => rfl
  rw [hne]
  have hL' : ref29_natural.L0 (Lib.itoa n) 9223372036854775807 (((Lib.itoa n).length : Int).toNat + 1) 0 0 = some (.inl n) := hL
  rw [hL']
  have hpos : 0 < (Lib.itoa n).length := List.length_pos_iff.2 (itoa_ne h0)
  have hcond : (if decide (1 < ((Lib.itoa n).length : Int)) = true then (req ((0 : Int) < ((Lib.itoa n).length : Int)) (some ((chr (Lib.itoa n) (0 : Int).toNat) == 48))) else (some false)) = some false := by
    rcases itoa_lead h0 with h | ⟨c, t, e, hc⟩
    · rw [h]; rfl
    · split
      · rw [reqT (by omega), e]
        have : chr (c :: t) (0 : Int).toNat = (c.toNat : Int) := rfl
        rw [this]
        have : ((c.toNat : Int) == 48) = false := by
          rw [beq_eq_false_iff_ne]; omega
        rw [this]
      · rfl
  simp only [Bool.false_eq_true, if_false]
  rw [hcond]
  rfl
end Go.Proofs.YtfbogkhgfaibbaaDoor
end

section
namespace Go.Proofs.YtfbogkhgfaibbaaDoor
open Go Go.HW Go.RowKit
set_option linter.unusedVariables false
set_option linter.unusedSimpArgs false

/-! ### the reference's read answers at every text -/
def RReadOk (s : List UInt8) (a : Nat) (left : Int) (o : Option (Tm × Int × Int)) : Prop := ∃ t e l', o = some (t, e, l') ∧ TOk t ∧ -1 ≤ l' ∧ l' ≤ left ∧ (e = -1 ∨ ∃ j : Nat, e = (j : Int) ∧ a < j ∧ j ≤ s.length ∧ 0 ≤ l')
theorem w19 {z : Nat} (h : z ≤ 1000000) : IntKind.i64.wrap ((z : Int) + 19) = (z : Int) + 19 := w64 (by omega) (by omega)
theorem rread_L2 {s : List UInt8} (hs : s.length ≤ 1000000) {r : List UInt8 → Int → Int → Option (Tm × Int × Int)} {A : Nat} (hr : ∀ (a : Nat) left, A < a → a ≤ s.length → 0 ≤ left → left ≤ 100000 → RReadOk s a left (r s (a : Int) left)) {z : Int} (hz : (z, fmArgs z) ∈ fmL) :
    ∀ (m : Nat) (i : Nat) (y : List Tm) (x : Nat) (left : Int), (fmArgs z - i).toNat < m → A ≤ x → x ≤ s.length → y.length ≤ i → i ≤ 3 → 0 ≤ left → left ≤ 100000 → (∀ t ∈ y, TOk t) →
    (∃ y' x' l', ref29_read.L2 r s z m y (x : Int) (i : Int) left = some (.inl (y', ((x' : Nat) : Int), l')) ∧ (∀ t ∈ y', TOk t) ∧ x ≤ x' ∧ x' ≤ s.length ∧ 0 ≤ l' ∧ l' ≤ left) ∨ (∃ t l', ref29_read.L2 r s z m y (x : Int) (i : Int) left = some (.inr (t, -1, l')) ∧ TOk t ∧ -1 ≤ l' ∧ l' ≤ left)
  | 0, i, y, x, left, h, _, _, _, _, _, _, _ => by omega
  | m + 1, i, y, x, left, h, hA, hx, hy, hi3, h0, h1, ho => by
    obtain ⟨z1, z2, z3, z4, z5, z6, z7, z8⟩ := kind_cases hz
    rw [ref29_read.L2, z8, Option.bind_some]
    by_cases c : (i : Int) < fmArgs z
    · simp only [c, decide_true, if_true]
      have e1 : ∀ {β : Type} (F : Int → Option β), (if ((i : Int) == 0) = true then (some (40 : Int)) else (some 44)).bind F = F (if ((i : Int) == 0) = true then 40 else 44) := fun F => by split <;> rfl
      rw [e1]
      generalize (if ((i : Int) == 0) = true then (40 : Int) else 44) = p
      rcases Nat.lt_or_ge x s.length with c2 | c2
      · have d1 : decide ((s.length : Int) ≤ (x : Int)) = false := decide_eq_false (by omega)
        rw [d1]
        simp only [Bool.false_eq_true, if_false]
        rw [reqT (by omega), reqT (by omega), Option.bind_some]
        split
        · exact .inr ⟨_, _, rfl, TOk_mk ⟨by omega, by omega⟩ ⟨by omega, by omega⟩ ho, by omega, by omega⟩
        · rw [wrap_succ (i := x) (by omega)]
          obtain ⟨t, e, l', eq, ht, h2, h3, hg⟩ := hr (x + 1) left (by omega) (by omega) h0 h1
          rw [eq, Option.bind_some]
          show (_ ∨ _)
          rcases hg with rfl | ⟨j, rfl, j1, j2, j3⟩
          · refine .inr ⟨Tm.mk z 0 y, l', ?_, TOk_mk ⟨by omega, by omega⟩ ⟨by omega, by omega⟩ ho, by omega, by omega⟩
            rfl
          · have d2 : decide ((j : Int) < 0) = false := decide_eq_false (by omega)
            simp only [d2, Bool.false_eq_true, if_false]
            rw [reqT (by simp; omega), wrap_succ (i := i) (by omega)]
            rcases rread_L2 hs hr hz m (i + 1) (y ++ [t]) j l' (by omega) (by omega) j2 (by simp; omega) (by omega) j3 (by omega) (fun u hu => by
              rcases List.mem_append.1 hu with hu | hu
              · exact ho u hu
              · rw [List.mem_singleton.1 hu]; exact ht) with ⟨y', x', l2, e2, a1, a2, a3, a4, a5⟩ | ⟨t2, l2, e2, a1, a2, a3⟩
            · exact .inl ⟨y', x', l2, e2, a1, by omega, a3, a4, by omega⟩
            · exact .inr ⟨t2, l2, e2, a1, a2, by omega⟩
      · have d1 : decide ((s.length : Int) ≤ (x : Int)) = true := decide_eq_true (by omega)
        rw [d1]
        simp only [if_true, Option.bind_some]
        exact .inr ⟨_, _, rfl, TOk_mk ⟨by omega, by omega⟩ ⟨by omega, by omega⟩ ho, by omega, by omega⟩
    · simp only [c, decide_false, Bool.false_eq_true, if_false]
      exact .inl ⟨_, _, _, rfl, ho, Nat.le_refl _, hx, h0, Int.le_refl _⟩
theorem i64_wrap (n : Int) : i64 (IntKind.i64.wrap n) := by
  rw [IntKind.wrap_i64]
  exact ⟨by omega, by omega⟩
theorem rread_total {s : List UInt8} (hs : s.length ≤ 1000000) : ∀ (k a : Nat) (left : Int), s.length - a < k → a ≤ s.length → 0 ≤ left → left ≤ 100000 → RReadOk s a left (ref29_read.f k s (a : Int) left)
  | 0, a, left, h, _, _, _ => by omega
  | k + 1, a, left, h, ha, h0, h1 => by
    show RReadOk s a left (ref29_read.F (ref29_read.f k) s (a : Int) left)
    unfold ref29_read.F
    rw [w64 (n := left - 1) (by omega) (by omega)]
    by_cases hl : left - 1 < 0
    · simp only [hl, decide_true, if_true]
      exact ⟨_, _, _, rfl, TOk_mk ⟨by omega, by omega⟩ ⟨by omega, by omega⟩ (fun t ht => by cases ht), by omega, by omega, .inl rfl⟩
    · simp only [hl, decide_false, Bool.false_eq_true, if_false]
      have hle := span_le lowB (s.drop a)
      rw [List.length_drop] at hle
      rw [rread_L0 hs _ a ha (by omega), Option.bind_some, rread_kind (by omega) (by omega), Option.bind_some]
      have hsub : a + span lowB (s.drop a) - a = span lowB (s.drop a) := by omega
      rw [hsub]
      generalize hz : kindOf ((s.drop a).take (span lowB (s.drop a))) = z
      have hzc := kindOf_any ((s.drop a).take (span lowB (s.drop a)))
      rw [hz] at hzc
      generalize hq : span lowB (s.drop a) = q at *
      rcases hzc with rfl | ⟨hm, hname⟩
      · exact ⟨_, _, _, rfl, TOk_mk ⟨by omega, by omega⟩ ⟨by omega, by omega⟩ (fun t ht => by cases ht), by omega, by omega, .inl rfl⟩
      · obtain ⟨z1, z2, z3, z4, z5, z6, z7, z8⟩ := kind_cases hm
        have hpos : 1 ≤ q := by
          rcases Nat.eq_zero_or_pos q with h2 | h2
          · rw [h2, List.take_zero] at hname; exact absurd hname z7
          · exact h2
        have z0 : (z == 0) = false := by rw [beq_eq_false_iff_ne]; omega
        rw [z0]
        simp only [Bool.false_eq_true, if_false]
        by_cases h2 : z ≤ 2
        · simp only [h2, decide_true, if_true]
          have hle2 := span_le digB (s.drop (a + q))
          rw [List.length_drop] at hle2
          rw [number_eq hs (by omega), Option.bind_some]
          generalize span digB (s.drop (a + q)) = d at *
          simp only [nm]
          rw [w19 (by omega)]
          have e : ∀ {β : Type} (F : Bool → Option β), (if (((a + q + d : Nat) : Int) == ((a + q : Nat) : Int)) = true then some true else some (decide (((a + q : Nat) : Int) + 19 < ((a + q + d : Nat) : Int)))).bind F = F ((((a + q + d : Nat) : Int) == ((a + q : Nat) : Int)) || decide (((a + q : Nat) : Int) + 19 < ((a + q + d : Nat) : Int))) := fun F => by
            cases (((a + q + d : Nat) : Int) == ((a + q : Nat) : Int)) <;> rfl
          rw [e]
          split
          · exact ⟨_, _, _, rfl, TOk_mk ⟨by omega, by omega⟩ ⟨by omega, by omega⟩ (fun t ht => by cases ht), by omega, by omega, .inl rfl⟩
          · rw [reqT (by omega), reqT (by omega), reqT (by omega)]
            obtain ⟨n, b, hn⟩ := nat_total (s := (s.drop (((a + q : Nat) : Int)).toNat).take ((((a + q + d : Nat) : Int)).toNat - (((a + q : Nat) : Int)).toNat)) (by rw [List.length_take, List.length_drop]; omega) 9223372036854775807
            rw [hn, Option.bind_some]
            cases b with
            | false => exact ⟨_, _, _, rfl, TOk_mk ⟨by omega, by omega⟩ (i64_wrap _) (fun t ht => by cases ht), by omega, by omega, .inl rfl⟩
            | true => exact ⟨_, _, _, rfl, TOk_mk ⟨by omega, by omega⟩ (i64_wrap _) (fun t ht => by cases ht), by omega, by omega, .inr ⟨a + q + d, rfl, by omega, by omega, by omega⟩⟩
        · simp only [h2, decide_false, Bool.false_eq_true, if_false]
          have z5' : (fmArgs z - ((0 : Nat) : Int)).toNat < 3 := by omega
          rcases rread_L2 hs (r := ref29_read.f k) (A := a) (fun a2 l2 q1 q2 q3 q4 => rread_total hs k a2 l2 (by omega) q2 q3 q4) hm 3 0 [] (a + q) (left - 1) z5' (by omega) (by omega) (by simp) (by omega) (by omega) (by omega) (fun t ht => by cases ht) with ⟨y', x', l2, e2, a1, a2, a3, a4, a5⟩ | ⟨t2, l2, e2, a1, a2, a3⟩
          · rw [show ((0 : Nat) : Int) = 0 from rfl] at e2
            rw [e2]
            simp only [onw]
            rcases Nat.lt_or_ge x' s.length with c2 | c2
            · have d1 : decide ((s.length : Int) ≤ (x' : Int)) = false := decide_eq_false (by omega)
              rw [d1]
              simp only [Bool.false_eq_true, if_false]
              rw [reqT (by omega), reqT (by omega), Option.bind_some]
              split
              · exact ⟨_, _, _, rfl, TOk_mk ⟨by omega, by omega⟩ ⟨by omega, by omega⟩ a1, by omega, by omega, .inl rfl⟩
              · rw [wrap_succ (by omega)]
                exact ⟨_, _, _, rfl, TOk_mk ⟨by omega, by omega⟩ ⟨by omega, by omega⟩ a1, by omega, by omega, .inr ⟨x' + 1, rfl, by omega, by omega, a4⟩⟩
            · have d1 : decide ((s.length : Int) ≤ (x' : Int)) = true := decide_eq_true (by omega)
              rw [d1]
              simp only [if_true, Option.bind_some]
              exact ⟨_, _, _, rfl, TOk_mk ⟨by omega, by omega⟩ ⟨by omega, by omega⟩ a1, by omega, by omega, .inl rfl⟩
          · rw [show ((0 : Nat) : Int) = 0 from rfl] at e2
            rw [e2]
            simp only [onw]
            exact ⟨_, _, _, rfl, a1, by omega, by omega, .inl rfl⟩
end Go.Proofs.YtfbogkhgfaibbaaDoor
end

section
namespace Go.Proofs.YtfbogkhgfaibbaaDoor
open Go Go.HW Go.RowKit
set_option linter.unusedVariables false
set_option linter.unusedSimpArgs false

/-! ### the reference's read reads a text back -/
theorem dec_len : ∀ (k u : Nat), 1 ≤ k → u < 10 ^ k → (Lib.decDigits u).length ≤ k
  | 0, u, h, _ => by omega
  | k + 1, u, _, h => by
    rw [Lib.decDigits]
    split
    · simp
    · rename_i hu
      rcases Nat.eq_zero_or_pos k with h0 | h0
      · subst h0; omega
      · have := dec_len k (u / 10) h0 (by rw [Nat.pow_succ] at h; omega)
        simp <;> omega
theorem itoa_len19 {n : Int} (h0 : 0 ≤ n) (h1 : n ≤ 9223372036854775807) : (Lib.itoa n).length ≤ 19 := by
  unfold Lib.itoa; rw [if_neg (by omega)]
  exact dec_len 19 _ (by decide) (by omega)
theorem chr_at (p : List UInt8) (c : UInt8) (t : List UInt8) {j : Nat} (h : j = p.length) : chr (p ++ c :: t) ((j : Int)).toNat = (c.toNat : Int) := by
  subst h; unfold chr; rw [Int.toNat_natCast]; simp
theorem rL2_step {s : List UInt8} {r : List UInt8 → Int → Int → Option (Tm × Int × Int)} {z : Int} {m i : Nat} {y : List Tm} {x j : Nat} {left l' : Int} {t : Tm} (hz : (z, fmArgs z) ∈ fmL) (c : (i : Int) < fmArgs z) (hs : s.length ≤ 1000000) (hx : x < s.length) (hc : chr s ((x : Int)).toNat = if ((i : Int) == 0) = true then 40 else 44) (hr : r s ((x + 1 : Nat) : Int) left = some (t, (j : Int), l')) (hy : y.length ≤ 10) :
    ref29_read.L2 r s z (m + 1) y (x : Int) (i : Int) left = ref29_read.L2 r s z m (y ++ [t]) (j : Int) ((i + 1 : Nat) : Int) l' := by
  obtain ⟨z1, z2, z3, z4, z5, z6, z7, z8⟩ := kind_cases hz
  have d1 : decide ((s.length : Int) ≤ (x : Int)) = false := decide_eq_false (by omega)
  have d2 : decide ((j : Int) < 0) = false := decide_eq_false (by omega)
  have e1 : ∀ {β : Type} (F : Int → Option β), (if ((i : Int) == 0) = true then (some (40 : Int)) else (some 44)).bind F = F (if ((i : Int) == 0) = true then 40 else 44) := fun F => by split <;> rfl
  rw [ref29_read.L2, z8, Option.bind_some]
  simp only [c, decide_true, if_true]
  rw [e1, d1]
  simp only [Bool.false_eq_true, if_false]
  rw [reqT (by omega), reqT (by omega), Option.bind_some, hc]
  simp only [bne_self_eq_false, Bool.false_eq_true, if_false]
  rw [wrap_succ (i := x) (by omega), hr, Option.bind_some]
  simp only [d2, Bool.false_eq_true, if_false]
  rw [reqT (by simp <;> omega), wrap_succ (i := i) (by omega)]
theorem rL2_end {s : List UInt8} {r : List UInt8 → Int → Int → Option (Tm × Int × Int)} {z : Int} {m i : Nat} {y : List Tm} {x left : Int} (hz : (z, fmArgs z) ∈ fmL) (c : ¬ (i : Int) < fmArgs z) : ref29_read.L2 r s z (m + 1) y x (i : Int) left = some (.inl (y, x, left)) := by
  obtain ⟨z1, z2, z3, z4, z5, z6, z7, z8⟩ := kind_cases hz
  rw [ref29_read.L2, z8, Option.bind_some]
  simp only [c, decide_false, Bool.false_eq_true, if_false]
theorem rread_head {p nam x : List UInt8} {z : Int} {left : Int} {rd : List UInt8 → Int → Int → Option (Tm × Int × Int)} (hlow : ∀ b ∈ nam, lowB b = true) (hx : x = [] ∨ ∃ c t, x = c :: t ∧ lowB c = false) (hk : kindOf nam = z) (hm : (z, fmArgs z) ∈ fmL) (h3 : ¬ z ≤ 2) (hl : (p ++ (nam ++ x)).length ≤ 1000000) (h0 : 1 ≤ left) (h1 : left ≤ 100000) :
    ref29_read.F rd (p ++ (nam ++ x)) ((p.length : Nat) : Int) left = onw (ref29_read.L2 rd (p ++ (nam ++ x)) z 3 ([] : List Tm) ((p.length + nam.length : Nat) : Int) 0 (left - 1)) (fun (z_o269_368, z1_369, z_a2_b_370) => (if (decide (((p ++ (nam ++ x)).length : Int) ≤ z1_369)) = true then (some true) else (req (0 ≤ z1_369) (req (z1_369 < ((p ++ (nam ++ x)).length : Int)) (some ((chr (p ++ (nam ++ x)) z1_369.toNat) != 41))))).bind fun q425 => if q425 = true then (some (Tm.mk z 0 z_o269_368, (-1), z_a2_b_370)) else (some (Tm.mk z 0 z_o269_368, IntKind.i64.wrap (z1_369 + 1), z_a2_b_370))) (fun r => some r) := by
  unfold ref29_read.F
  obtain ⟨z1, z2, z3, z4, z5, z6, z7, -⟩ := kind_cases hm
  have c' : ¬ (left - 1 < 0) := by omega
  have hd : (p ++ (nam ++ x)).drop p.length = nam ++ x := List.drop_left
  have hsp : span lowB (nam ++ x) = nam.length := span_app hlow hx
  have z0 : (z == 0) = false := by rw [beq_eq_false_iff_ne]; omega
  rw [w64 (n := left - 1) (by omega) (by omega)]
  simp only [c', decide_false, Bool.false_eq_true, if_false]
  have hle : p.length + nam.length ≤ (p ++ (nam ++ x)).length := by simp <;> omega
  rw [rread_L0 hl _ p.length (by simp) (by simp <;> omega), Option.bind_some, hd, hsp, rread_kind (by omega) hle, Option.bind_some, hd, Nat.add_sub_cancel_left, List.take_left, hk, z0]
  simp only [Bool.false_eq_true, if_false, h3, decide_false]
theorem rread_leaf {p : List UInt8} {z : Int} {c : UInt8} {n : Int} {left : Int} {r : List UInt8} {rd : List UInt8 → Int → Int → Option (Tm × Int × Int)} (hc : lowB c = true) (hk : kindOf [c] = z) (hm : (z, fmArgs z) ∈ fmL) (h2 : z ≤ 2) (h0 : 0 ≤ n) (h1 : n ≤ 9223372036854775807) (hl0 : 1 ≤ left) (hl1 : left ≤ 100000) (hl : (p ++ ([c] ++ (Lib.itoa n ++ r))).length ≤ 1000000) (hr : Stops r) :
    ref29_read.F rd (p ++ ([c] ++ (Lib.itoa n ++ r))) ((p.length : Nat) : Int) left = some (Tm.mk z n [], ((p.length + (1 + (Lib.itoa n).length) : Nat) : Int), left - 1) := by
  unfold ref29_read.F
  obtain ⟨z1, z2, z3, z4, z5, z6, z7, -⟩ := kind_cases hm
  have c' : ¬ (left - 1 < 0) := by omega
  have hd : (p ++ ([c] ++ (Lib.itoa n ++ r))).drop p.length = [c] ++ (Lib.itoa n ++ r) := List.drop_left
  have hsp : span lowB ([c] ++ (Lib.itoa n ++ r)) = 1 := span_app (a := [c]) (by intro b hb; rw [List.mem_singleton.1 hb]; exact hc) (.inr (itoa_low h0 r))
  have z0 : (z == 0) = false := by rw [beq_eq_false_iff_ne]; omega
  have hll : (p ++ ([c] ++ (Lib.itoa n ++ r))).length = p.length + 1 + (Lib.itoa n).length + r.length := by simp <;> omega
  have h19 := itoa_len19 h0 h1
  have hpos : 0 < (Lib.itoa n).length := List.length_pos_iff.2 (itoa_ne h0)
  have hd2 : (p ++ ([c] ++ (Lib.itoa n ++ r))).drop (p.length + 1) = Lib.itoa n ++ r := by
    rw [← List.append_assoc]; exact List.drop_left' (by simp)
  have hsp2 : span digB (Lib.itoa n ++ r) = (Lib.itoa n).length := span_app (fun b hb => isDig_digB (itoa_dig h0 b hb)) (stops_dig hr)
  rw [w64 (n := left - 1) (by omega) (by omega)]
  simp only [c', decide_false, Bool.false_eq_true, if_false]
  rw [rread_L0 hl _ p.length (by omega) (by omega), Option.bind_some, hd, hsp, rread_kind (by omega) (by omega), Option.bind_some, hd, Nat.add_sub_cancel_left, show ([c] ++ (Lib.itoa n ++ r)).take 1 = [c] from rfl, hk, z0]
  simp only [Bool.false_eq_true, if_false, h2, decide_true, if_true]
  rw [number_eq hl (by omega), Option.bind_some, hd2, hsp2]
  simp only [nm]
  rw [w19 (by omega)]
  have q1 : (((p.length + 1 + (Lib.itoa n).length : Nat) : Int) == ((p.length + 1 : Nat) : Int)) = false := by rw [beq_eq_false_iff_ne]; omega
  have q2 : decide (((p.length + 1 : Nat) : Int) + 19 < ((p.length + 1 + (Lib.itoa n).length : Nat) : Int)) = false := decide_eq_false (by omega)
  rw [q1]
  simp only [Bool.false_eq_true, if_false]
  rw [q2]
  simp only [Option.bind_some, Bool.false_eq_true, if_false]
  rw [reqT (by omega), reqT (by omega), reqT (by omega)]
  have hs : ((p ++ ([c] ++ (Lib.itoa n ++ r))).drop (((p.length + 1 : Nat) : Int)).toNat).take ((((p.length + 1 + (Lib.itoa n).length : Nat) : Int)).toNat - (((p.length + 1 : Nat) : Int)).toNat) = Lib.itoa n := by
    rw [Int.toNat_natCast, Int.toNat_natCast, hd2, Nat.add_sub_cancel_left, List.take_left]
  rw [hs, natural_itoa h0 h1 (by omega), Option.bind_some]
  simp only [Bool.not_true, Bool.false_eq_true, if_false]
  rw [w64 (by omega) (by omega), Nat.add_assoc]
theorem rread_u : ∀ {u : U}, u.ok → ∀ {k : Nat} {left : Int} {p r : List UInt8}, u.tm.depth ≤ k → (u.size : Int) ≤ left → left ≤ 100000 → (p ++ (u.txt ++ r)).length ≤ 1000000 → Stops r → ref29_read.f k (p ++ (u.txt ++ r)) ((p.length : Nat) : Int) left = some (u.tm, ((p.length + u.txt.length : Nat) : Int), left - u.size) := by
  intro u
  induction u with
  | d n =>
    intro h k left p r hk hl0 hl1 hlen hr
    cases k with
    | zero => simp [U.tm, depth_leaf] at hk
    | succ k =>
      have := rread_leaf (rd := ref29_read.f k) (p := p) (z := 1) (c := 100) (n := n) (left := left) (r := r) (by decide) (by decide) (by decide) (by decide) h.1 h.2 (by simpa [U.size] using hl0) hl1 hlen hr
      show ref29_read.F (ref29_read.f k) (p ++ ([100] ++ (Lib.itoa n ++ r))) _ left = _
      rw [this, Nat.add_comm 1]; rfl
  | s n =>
    intro h k left p r hk hl0 hl1 hlen hr
    cases k with
    | zero => simp [U.tm, depth_leaf] at hk
    | succ k =>
      have := rread_leaf (rd := ref29_read.f k) (p := p) (z := 2) (c := 115) (n := n) (left := left) (r := r) (by decide) (by decide) (by decide) (by decide) h.1 h.2 (by simpa [U.size] using hl0) hl1 hlen hr
      show ref29_read.F (ref29_read.f k) (p ++ ([115] ++ (Lib.itoa n ++ r))) _ left = _
      rw [this, Nat.add_comm 1]; rfl
  | un c a ih =>
    intro h k left p r hk hl0 hl1 hlen hr
    cases k with
    | zero => rw [U.tm, depth_un] at hk; omega
    | succ k =>
      rw [U.tm, depth_un] at hk
      simp only [U.size] at hl0
      have e : (U.un c a).txt ++ r = c.name ++ (40 :: (a.txt ++ (41 :: r))) := by simp [U.txt]
      rw [e] at hlen ⊢
      have hm : (c.num, fmArgs c.num) ∈ fmL := by cases c <;> decide
      have ha : fmArgs c.num = 1 := by cases c <;> decide
      have hz : ¬ c.num ≤ 2 := by cases c <;> decide
      show ref29_read.F (ref29_read.f k) _ _ left = _
      rw [rread_head (name_low1 c) (.inr ⟨40, _, rfl, by decide⟩) (kind_k1 c) hm hz hlen (by omega) hl1]
      have hll : (p ++ (c.name ++ (40 :: (a.txt ++ (41 :: r))))).length = p.length + c.name.length + 1 + a.txt.length + 1 + r.length := by simp <;> omega
      have s1 : p ++ (c.name ++ (40 :: (a.txt ++ (41 :: r)))) = (p ++ c.name) ++ 40 :: (a.txt ++ (41 :: r)) := by simp
      have s2 : p ++ (c.name ++ (40 :: (a.txt ++ (41 :: r)))) = (p ++ c.name ++ [40]) ++ (a.txt ++ (41 :: r)) := by simp
      have s3 : p ++ (c.name ++ (40 :: (a.txt ++ (41 :: r)))) = (p ++ c.name ++ [40] ++ a.txt) ++ 41 :: r := by simp
      have hread := ih h (k := k) (left := left - 1) (p := p ++ c.name ++ [40]) (r := 41 :: r) (by omega) (by omega) (by omega) (by rw [← s2]; exact hlen) (st41 _)
      rw [← s2] at hread
      have pl : (p ++ c.name ++ [40]).length = p.length + c.name.length + 1 := by simp <;> omega
      rw [pl] at hread
      have t1 := rL2_step (m := 2) (i := 0) (y := []) (x := p.length + c.name.length) (r := ref29_read.f k) hm (by rw [ha]; decide) hlen (by omega) (by rw [s1]; exact chr_at _ _ _ (by simp <;> omega)) hread (by simp)
      rw [show ((0 : Nat) : Int) = 0 from rfl] at t1
      rw [t1, rL2_end hm (by rw [ha]; decide)]
      simp only [onw]
      have d1 : decide (((p ++ (c.name ++ (40 :: (a.txt ++ (41 :: r))))).length : Int) ≤ ((p.length + c.name.length + 1 + a.txt.length : Nat) : Int)) = false := decide_eq_false (by omega)
      rw [d1]
      simp only [Bool.false_eq_true, if_false]
      have hc : chr (p ++ (c.name ++ (40 :: (a.txt ++ (41 :: r))))) (((p.length + c.name.length + 1 + a.txt.length : Nat) : Int)).toNat = ((41 : UInt8).toNat : Int) := by rw [s3]; exact chr_at _ _ _ (by simp <;> omega)
      rw [reqT (by omega), reqT (by omega), hc, wrap_succ (by omega)]
      have : ((((41 : UInt8).toNat : Int)) != 41) = false := by decide
      rw [this]
      simp only [Option.bind_some, Bool.false_eq_true, if_false]
      have tl : (U.un c a).txt.length = c.name.length + 1 + a.txt.length + 1 := by simp [U.txt]; omega
      rw [tl]
      show some (Tm.mk c.num 0 [a.tm], _, _) = some (Tm.mk c.num 0 [a.tm], _, _)
      simp only [U.size]
      congr 3
      · omega
      · omega
  | bi c a b iha ihb =>
    intro h k left p r hk hl0 hl1 hlen hr
    cases k with
    | zero => rw [U.tm] at hk; have := depth_bi c.num 0 a.tm b.tm; omega
    | succ k =>
      rw [U.tm] at hk
      have hd := depth_bi c.num 0 a.tm b.tm
      simp only [U.size] at hl0
      have e : (U.bi c a b).txt ++ r = c.name ++ (40 :: (a.txt ++ (44 :: (b.txt ++ (41 :: r))))) := by simp [U.txt]
      rw [e] at hlen ⊢
      have hm : (c.num, fmArgs c.num) ∈ fmL := by cases c <;> decide
      have ha : fmArgs c.num = 2 := by cases c <;> decide
      have hz : ¬ c.num ≤ 2 := by cases c <;> decide
      show ref29_read.F (ref29_read.f k) _ _ left = _
      rw [rread_head (name_low2 c) (.inr ⟨40, _, rfl, by decide⟩) (kind_k2 c) hm hz hlen (by omega) hl1]
      have hll : (p ++ (c.name ++ (40 :: (a.txt ++ (44 :: (b.txt ++ (41 :: r))))))).length = p.length + c.name.length + 1 + a.txt.length + 1 + b.txt.length + 1 + r.length := by simp <;> omega
      have s1 : p ++ (c.name ++ (40 :: (a.txt ++ (44 :: (b.txt ++ (41 :: r)))))) = (p ++ c.name) ++ 40 :: (a.txt ++ (44 :: (b.txt ++ (41 :: r)))) := by simp
      have s2 : p ++ (c.name ++ (40 :: (a.txt ++ (44 :: (b.txt ++ (41 :: r)))))) = (p ++ c.name ++ [40]) ++ (a.txt ++ (44 :: (b.txt ++ (41 :: r)))) := by simp
      have s3 : p ++ (c.name ++ (40 :: (a.txt ++ (44 :: (b.txt ++ (41 :: r)))))) = (p ++ c.name ++ [40] ++ a.txt) ++ 44 :: (b.txt ++ (41 :: r)) := by simp
      have s4 : p ++ (c.name ++ (40 :: (a.txt ++ (44 :: (b.txt ++ (41 :: r)))))) = (p ++ c.name ++ [40] ++ a.txt ++ [44]) ++ (b.txt ++ (41 :: r)) := by simp
      have s5 : p ++ (c.name ++ (40 :: (a.txt ++ (44 :: (b.txt ++ (41 :: r)))))) = (p ++ c.name ++ [40] ++ a.txt ++ [44] ++ b.txt) ++ 41 :: r := by simp
      have h1 := iha h.1 (k := k) (left := left - 1) (p := p ++ c.name ++ [40]) (r := 44 :: (b.txt ++ (41 :: r))) (by omega) (by omega) (by omega) (by rw [← s2]; exact hlen) (st44 _)
      rw [← s2] at h1
      have pl : (p ++ c.name ++ [40]).length = p.length + c.name.length + 1 := by simp <;> omega
      rw [pl] at h1
      have h2 := ihb h.2 (k := k) (left := left - 1 - a.size) (p := p ++ c.name ++ [40] ++ a.txt ++ [44]) (r := 41 :: r) (by omega) (by omega) (by omega) (by rw [← s4]; exact hlen) (st41 _)
      rw [← s4] at h2
      have pl2 : (p ++ c.name ++ [40] ++ a.txt ++ [44]).length = p.length + c.name.length + 1 + a.txt.length + 1 := by simp <;> omega
      rw [pl2] at h2
      have t1 := rL2_step (m := 2) (i := 0) (y := []) (x := p.length + c.name.length) (r := ref29_read.f k) hm (by rw [ha]; decide) hlen (by omega) (by rw [s1]; exact chr_at _ _ _ (by simp <;> omega)) h1 (by simp)
      have t2 := rL2_step (m := 1) (i := 0 + 1) (y := [] ++ [a.tm]) (x := p.length + c.name.length + 1 + a.txt.length) (r := ref29_read.f k) hm (by rw [ha]; decide) hlen (by omega) (by rw [s3]; exact chr_at _ _ _ (by simp <;> omega)) h2 (by simp)
      rw [show ((0 : Nat) : Int) = 0 from rfl] at t1
      rw [t1, t2, rL2_end hm (by rw [ha]; decide)]
      simp only [onw]
      have d1 : decide (((p ++ (c.name ++ (40 :: (a.txt ++ (44 :: (b.txt ++ (41 :: r))))))).length : Int) ≤ ((p.length + c.name.length + 1 + a.txt.length + 1 + b.txt.length : Nat) : Int)) = false := decide_eq_false (by omega)
      rw [d1]
      simp only [Bool.false_eq_true, if_false]
      have hc : chr (p ++ (c.name ++ (40 :: (a.txt ++ (44 :: (b.txt ++ (41 :: r))))))) (((p.length + c.name.length + 1 + a.txt.length + 1 + b.txt.length : Nat) : Int)).toNat = ((41 : UInt8).toNat : Int) := by rw [s5]; exact chr_at _ _ _ (by simp <;> omega)
      rw [reqT (by omega), reqT (by omega), hc, wrap_succ (by omega)]
      have : ((((41 : UInt8).toNat : Int)) != 41) = false := by decide
      rw [this]
      simp only [Option.bind_some, Bool.false_eq_true, if_false]
      have tl : (U.bi c a b).txt.length = c.name.length + 1 + a.txt.length + 1 + b.txt.length + 1 := by simp [U.txt]; omega
      rw [tl]
      show some (Tm.mk c.num 0 [a.tm, b.tm], _, _) = some (Tm.mk c.num 0 [a.tm, b.tm], _, _)
      simp only [U.size]
      congr 3
      · omega
      · omega
end Go.Proofs.YtfbogkhgfaibbaaDoor
end

section
namespace Go.Proofs.YtfbogkhgfaibbaaDoor
open Go Go.HW Go.RowKit
set_option linter.unusedVariables false
set_option linter.unusedSimpArgs false

/-! ### terms.Parts: functions 41, 63, 64 -/
mutual
def pre : Tm → List Tm
  | .node p ks => .node p ks :: pres ks
def pres : List Tm → List Tm
  | [] => []
  | t :: r => pre t ++ pres r
end
abbrev tmC (t : Tm) (k : Value) : Value := .agg #[.int .i64 (Tm.kind t), .int .i64 (Tm.num t), k]
/-- What one that goes on stands on. -/
structure Going {σ : Type} (l : Nat) (M I : Mem) (E : σ → Heap) (step : σ → Tm → σ → Prop) (b : σ → Bool) (Gd : σ → List Tm → Prop) : Prop where
  turn : ∀ s x xs k, Gd s (x :: xs) → RowS ShTm M k (Tree.kids x) → RoundTurn Tryd.prog l I (tmC x k) (E s) (fun t => step s x t) b E
  on : ∀ s x xs t, Gd s (x :: xs) → step s x t → b t = true → Gd t xs
section
variable {σ : Type} {l yb eb : Nat} {M I : Mem} {E : σ → Heap} {step : σ → Tm → σ → Prop} {b : σ → Bool} {Gd : σ → List Tm → Prop}
end
end Go.Proofs.YtfbogkhgfaibbaaDoor
end

section
namespace Go.Proofs.YtfbogkhgfaibbaaDoor
open Go Go.HW Go.RowKit
set_option linter.unusedVariables false
set_option linter.unusedSimpArgs false

section
variable {σ : Type} {l : Nat} {M I : Mem} {E : σ → Heap} {step : σ → Tm → σ → Prop} {b : σ → Bool} {Gd : σ → List Tm → Prop}
end
end Go.Proofs.YtfbogkhgfaibbaaDoor
end

section
namespace Go.Proofs.YtfbogkhgfaibbaaDoor
open Go Go.HW Go.RowKit
set_option linter.unusedVariables false
set_option linter.unusedSimpArgs false

/-! ### the walk, and a term told the same as itself -/
mutual
theorem pre_len : ∀ (t : Tm), (pre t).length = tsz t
  | .node p ks => by rw [pre, tsz, List.length_cons, pres_len ks]; omega
theorem pres_len : ∀ (ks : List Tm), (pres ks).length = tszs ks
  | [] => by rw [pres, tszs]; rfl
  | t :: r => by rw [pres, tszs, List.length_append, pre_len t, pres_len r]
end
theorem equal_self : ∀ (k : Nat) (v : Tm), Tree.depth v ≤ k → tsz v ≤ 1000000 → ref29_Equal.f k v v = some true
  | 0, v, h, _ => by have := tdepth_pos v; omega
  | k + 1, v, h, hz => by
    have hv := tsz_eq v
    have hl := tszs_len (Tree.kids v)
    have hr : ∀ t ∈ Tree.kids v, ref29_Equal.f k t t = some true := fun t ht => equal_self k t (by have := tdepth_kid ht; omega) (by have := tszs_mem t ht; omega)
    show ref29_Equal.F (ref29_Equal.f k) v v = _
    unfold ref29_Equal.F
    have := each_loop (xs := Tree.kids v) (B := Bool) (L := ref29_Equal.L0 (ref29_Equal.f k) v v) (step := fun t => some none) (by omega) (fun q i r hi hst => ?_) (fun q => ?_) (fun t ht => ⟨_, rfl⟩) ((((Tree.kids v).length : Int)).toNat + 1) 0 (by omega) (by omega)
    · rcases this with ⟨h1, h2⟩ | ⟨b, h1, x, hx, h2⟩
      · rw [show ((0 : Nat) : Int) = 0 from rfl] at h1
        simp only [bne_self_eq_false, Bool.false_eq_true, if_false, Option.bind_some, nm]
        rw [h1]; rfl
      · cases h2
    · cases hst
      rw [ref29_Equal.L0]
      have c' : (i : Int) < ((Tree.kids v).length : Int) := by omega
      simp only [c', decide_true, if_true, nm, Int.toNat_natCast]
      rw [reqT (show (0 : Int) ≤ (i : Int) by omega), reqT trivial, reqT trivial, hr _ (tgetD_mem hi)]
      rfl
    · rw [ref29_Equal.L0]; simp

/-! ### escutcheonlaw29.once: function 22 -/
/-- How far it has come, whether it is at an end, and what it answers with. -/
structure OnS where
  i : Nat
  done : Bool
  ret : Bool
end Go.Proofs.YtfbogkhgfaibbaaDoor
end
