import Derived.Test.YtillmeddkdcenaaScLaws
namespace Go.Proofs.Ytillmeddkdcenaa
open Go Go.HW Go.RowKit
set_option linter.unusedVariables false
set_option linter.unusedSimpArgs false

/-! ### numbers of sixteen digits of 16 bits -/
def U16 (d : Int) : Prop := 0 ≤ d ∧ d < 65536
/-- Sixteen digits. -/
def Num (n : List Int) : Prop := n.length = 16 ∧ ∀ d ∈ n, U16 d
abbrev nval (n : List Int) : Int := val 65536 n
theorem nval_range {n : List Int} (h : Num n) : 0 ≤ nval n ∧ nval n < 2 ^ 256 := by
  refine ⟨val_nonneg (by omega) n h.2, ?_⟩
  have := val_lt (B := 65536) (by omega) n h.2
  rw [h.1] at this
  exact this
theorem list16 {xs : List Int} (h : xs.length = 16) : ∃ a0 a1 a2 a3 a4 a5 a6 a7 a8 a9 a10 a11 a12 a13 a14 a15, xs = [a0, a1, a2, a3, a4, a5, a6, a7, a8, a9, a10, a11, a12, a13, a14, a15] := by
  match xs, h with
  | [a0, a1, a2, a3, a4, a5, a6, a7, a8, a9, a10, a11, a12, a13, a14, a15], _ => exact ⟨a0, a1, a2, a3, a4, a5, a6, a7, a8, a9, a10, a11, a12, a13, a14, a15, rfl⟩
def dg (x y : Int) : Int := IntKind.u64.wrap (IntKind.u64.wrap x + IntKind.u64.wrap (256 * IntKind.u64.wrap y))
theorem dg_eq {x y : Int} (hx : U8 x) (hy : U8 y) : dg x y = x + 256 * y := by
  unfold U8 at *; unfold dg; simp only [IntKind.wrap_u64]; omega
set_option maxRecDepth 100000 in
theorem of_run (b0 b1 b2 b3 b4 b5 b6 b7 c0 c1 c2 c3 c4 c5 c6 c7 d0 d1 d2 d3 d4 d5 d6 d7 e0 e1 e2 e3 e4 e5 e6 e7 : Int) :
    ref02_Of.f [b0, b1, b2, b3, b4, b5, b6, b7, c0, c1, c2, c3, c4, c5, c6, c7, d0, d1, d2, d3, d4, d5, d6, d7, e0, e1, e2, e3, e4, e5, e6, e7] =
      some [dg b0 b1, dg b2 b3, dg b4 b5, dg b6 b7, dg c0 c1, dg c2 c3, dg c4 c5, dg c6 c7, dg d0 d1, dg d2 d3, dg d4 d5, dg d6 d7, dg e0 e1, dg e2 e3, dg e4 e5, dg e6 e7] := by kernel_rfl
theorem Of_eq {a : List Int} (h : Key a) : ∃ n, ref02_Of.f a = some n ∧ Num n ∧ nval n = num a := by
  obtain ⟨hl, hb⟩ := h
  obtain ⟨b0, b1, b2, b3, b4, b5, b6, b7, c0, c1, c2, c3, c4, c5, c6, c7, d0, d1, d2, d3, d4, d5, d6, d7, e0, e1, e2, e3, e4, e5, e6, e7, rfl⟩ := list32 hl
  have A : ∀ x ∈ [b0, b1, b2, b3, b4, b5, b6, b7, c0, c1, c2, c3, c4, c5, c6, c7, d0, d1, d2, d3, d4, d5, d6, d7, e0, e1, e2, e3, e4, e5, e6, e7], U8 x := hb
  simp only [List.mem_cons, List.not_mem_nil, or_false, forall_eq_or_imp, forall_eq] at A
  obtain ⟨A0, A1, A2, A3, A4, A5, A6, A7, A8, A9, A10, A11, A12, A13, A14, A15, A16, A17, A18, A19, A20, A21, A22, A23, A24, A25, A26, A27, A28, A29, A30, A31⟩ := A
  refine ⟨_, of_run .., ⟨rfl, ?_⟩, ?_⟩
  · simp only [List.mem_cons, List.not_mem_nil, or_false, forall_eq_or_imp, forall_eq]
    rw [dg_eq A0 A1, dg_eq A2 A3, dg_eq A4 A5, dg_eq A6 A7, dg_eq A8 A9, dg_eq A10 A11, dg_eq A12 A13, dg_eq A14 A15, dg_eq A16 A17, dg_eq A18 A19, dg_eq A20 A21, dg_eq A22 A23, dg_eq A24 A25, dg_eq A26 A27, dg_eq A28 A29, dg_eq A30 A31]
    unfold U8 at *
    unfold U16
    refine ⟨?_, ?_, ?_, ?_, ?_, ?_, ?_, ?_, ?_, ?_, ?_, ?_, ?_, ?_, ?_, ?_⟩ <;> omega
  · rw [dg_eq A0 A1, dg_eq A2 A3, dg_eq A4 A5, dg_eq A6 A7, dg_eq A8 A9, dg_eq A10 A11, dg_eq A12 A13, dg_eq A14 A15, dg_eq A16 A17, dg_eq A18 A19, dg_eq A20 A21, dg_eq A22 A23, dg_eq A24 A25, dg_eq A26 A27, dg_eq A28 A29, dg_eq A30 A31]
    simp only [val]
    omega
def ordD : List Int := digits 65536 16 L
theorem ord_run : ref03_Order.f = some ordD := by kernel_rfl
theorem ord_num : Num ordD := ⟨digits_length _ _ _, digits_range (by omega) 16 L⟩
theorem ord_val : nval ordD = L := val_digits (by omega) 16 L (by decide) (by decide)

/-! less -/
theorem less_loop {a b : List Int} (ha : Num a) (hb : Num b) : ∀ (k i : Nat), k = i + 1 → i ≤ 16 → (∀ m, i ≤ m → m < 16 → a.getD m 0 = b.getD m 0) →
    ref02_Less.L0 a b k ((i : Int) - 1) = some (if val 65536 (a.take i) < val 65536 (b.take i) then .inr true else if val 65536 (a.take i) = val 65536 (b.take i) then .inl () else .inr false)
  | 0, i, hk, _, _ => by omega
  | k + 1, 0, hk, _, _ => by
    unfold ref02_Less.L0
    simp [val]
  | k + 1, i + 1, hk, hi, heq => by
    have hta : ∀ xs : List Int, xs.length = 16 → val 65536 (xs.take (i + 1)) = val 65536 (xs.take i) + xs.getD i 0 * 65536 ^ i := fun xs hx => by
      have : ∀ (m : Nat) (ys : List Int), m < ys.length → val 65536 (ys.take (m + 1)) = val 65536 (ys.take m) + ys.getD m 0 * 65536 ^ m := by
        intro m
        induction m with
        | zero => intro ys hm; match ys, hm with
                               | y :: ys, _ => simp [val]
        | succ m ih =>
          intro ys hm
          match ys, hm with
          | y :: ys, hm =>
            have h1 := ih ys (by simpa using hm)
            simp only [List.take_succ_cons, val, List.getD_cons_succ, h1, Int.pow_succ]
            grind
      exact this i xs (by omega)
    have hra : ∀ xs : List Int, Num xs → 0 ≤ val 65536 (xs.take i) ∧ val 65536 (xs.take i) < 65536 ^ i := fun xs hx => by
      have hm : ∀ x ∈ xs.take i, 0 ≤ x ∧ x < 65536 := fun x hxm => hx.2 x (List.mem_of_mem_take hxm)
      refine ⟨val_nonneg (by omega) _ hm, ?_⟩
      have := val_lt (B := 65536) (by omega) _ hm
      rwa [List.length_take, hx.1, Nat.min_eq_left (by omega)] at this
    obtain ⟨p0, p1⟩ := hra a ha
    obtain ⟨q0, q1⟩ := hra b hb
    rw [hta a ha.1, hta b hb.1]
    have hE : (0 : Int) < 65536 ^ i := Int.pow_pos (by omega)
    unfold ref02_Less.L0
    have e1 : (((i + 1 : Nat) : Int) - 1) = (i : Int) := by omega
    have e2 : IntKind.i64.wrap ((i : Int) - 1) = (i : Int) - 1 := by rw [IntKind.wrap_i64]; omega
    rw [e1, if_pos (by simp), req, if_pos (by omega), req, if_pos (by omega)]
    simp only [nm, Int.toNat_natCast, e2]
    by_cases h : a.getD i 0 = b.getD i 0
    · rw [if_neg (by rw [h]; simp), less_loop ha hb k i (by omega) (by omega) (fun m h1 h2 => by
        by_cases hm : m = i
        · rw [hm]; exact h
        · exact heq m (by omega) h2), h]
      congr 1
      by_cases c1 : val 65536 (a.take i) < val 65536 (b.take i)
      · rw [if_pos c1, if_pos (by omega)]
      · by_cases c2 : val 65536 (a.take i) = val 65536 (b.take i)
        · rw [if_neg c1, if_pos c2, if_neg (by omega), if_pos (by omega)]
        · rw [if_neg c1, if_neg c2, if_neg (by omega), if_neg (by omega)]
    · rw [if_pos (bne_iff_ne.2 h)]
      congr 1
      by_cases c : a.getD i 0 < b.getD i 0
      · have : (a.getD i 0 + 1) * 65536 ^ i ≤ b.getD i 0 * 65536 ^ i := Int.mul_le_mul_of_nonneg_right (by omega) (by omega)
        rw [Int.add_mul] at this
        rw [decide_eq_true c, if_pos (by omega)]
      · have : (b.getD i 0 + 1) * 65536 ^ i ≤ a.getD i 0 * 65536 ^ i := Int.mul_le_mul_of_nonneg_right (by omega) (by omega)
        rw [Int.add_mul] at this
        rw [decide_eq_false c, if_neg (by omega), if_neg (by omega)]
theorem Less_eq {a b : List Int} (ha : Num a) (hb : Num b) : ref02_Less.f a b = some (decide (nval a < nval b)) := by
  unfold ref02_Less.f
  have h := less_loop ha hb 17 16 rfl (by omega) (fun m h1 h2 => by omega)
  rw [show (((16 : Nat) : Int) - 1) = 15 from rfl, List.take_of_length_le (Nat.le_of_eq ha.1), List.take_of_length_le (Nat.le_of_eq hb.1)] at h
  rw [h]
  by_cases c : nval a < nval b
  · rw [if_pos c, decide_eq_true c]; rfl
  · rw [if_neg c, decide_eq_false c]
    split <;> rfl

/-! taking away -/
theorem all16_set {ys : List Int} {m : Nat} {v : Int} (h : ∀ y ∈ ys, U16 y) (hv : U16 v) : ∀ y ∈ ys.set m v, U16 y := fun y hy => by
  rcases List.mem_or_eq_of_mem_set hy with h1 | h1
  · exact h y h1
  · rw [h1]; exact hv
theorem get_u16 {ys : List Int} (h : ∀ y ∈ ys, U16 y) (m : Nat) : U16 (ys.getD m 0) := by
  rcases Nat.lt_or_ge m ys.length with hm | hm
  · exact h _ (by simp [List.getD_eq_getElem?_getD, hm])
  · rw [List.getD_eq_getElem?_getD, List.getElem?_eq_none hm]; unfold U16; simp
theorem minus_loop {b : List Int} (hb : Num b) : ∀ (k i : Nat), k + i = 17 → i ≤ 16 → ∀ (c : Int) (y : List Int), 0 ≤ c ∧ c ≤ 1 → Num y →
    ∃ c' y', ref02_Minus.L0 b k c i y = some y' ∧ (0 ≤ c' ∧ c' ≤ 1) ∧ Num y' ∧ val 65536 y' - c' * 65536 ^ 16 = val 65536 y - c * 65536 ^ i - val 65536 (b.drop i) * 65536 ^ i
  | 0, i, hk, hi, _, _, _, _ => by omega
  | k + 1, i, hk, hi, c, y, hc, hy => by
    by_cases h8 : i = 16
    · subst h8
      refine ⟨c, y, ?_, hc, hy, ?_⟩
      · unfold ref02_Minus.L0; simp
      · rw [show b.drop 16 = [] from List.drop_of_length_le (by rw [hb.1]; omega)]; simp [val]
    · have hi8 : i < 16 := by omega
      have gw := get_u16 hy.2 i
      have gz := get_u16 hb.2 i
      have e2 : IntKind.i64.wrap ((i : Int) + 1) = ((i + 1 : Nat) : Int) := by rw [wrap_small (by omega) (by omega)]; omega
      have hs : ∃ q u : Int, IntKind.u64.wrap (1 - IntKind.u64.wrap (Int.tdiv (IntKind.u64.wrap (IntKind.u64.wrap (IntKind.u64.wrap (y.getD i 0 + 65536) - b.getD i 0) - c)) 65536)) = q ∧ Int.tmod (IntKind.u64.wrap (IntKind.u64.wrap (IntKind.u64.wrap (y.getD i 0 + 65536) - b.getD i 0) - c)) 65536 = u ∧ (0 ≤ q ∧ q ≤ 1) ∧ U16 u ∧ u = y.getD i 0 - b.getD i 0 - c + 65536 * q := by
        unfold U16 at *
        generalize y.getD i 0 = a at *
        generalize b.getD i 0 = d at *
        have w1 : IntKind.u64.wrap (a + 65536) = a + 65536 := by rw [IntKind.wrap_u64]; omega
        have w2 : IntKind.u64.wrap (a + 65536 - d) = a + 65536 - d := by rw [IntKind.wrap_u64]; omega
        have w3 : IntKind.u64.wrap (a + 65536 - d - c) = a + 65536 - d - c := by rw [IntKind.wrap_u64]; omega
        rw [w1, w2, w3, Int.tdiv_eq_ediv_of_nonneg (by omega), Int.tmod_eq_emod_of_nonneg (by omega)]
        have w4 : IntKind.u64.wrap ((a + 65536 - d - c) / 65536) = (a + 65536 - d - c) / 65536 := by rw [IntKind.wrap_u64]; omega
        have w5 : IntKind.u64.wrap (1 - (a + 65536 - d - c) / 65536) = 1 - (a + 65536 - d - c) / 65536 := by rw [IntKind.wrap_u64]; omega
        rw [w4, w5]
        exact ⟨_, _, rfl, rfl, by omega, by omega, by omega⟩
      obtain ⟨q, u, hq, hu, hq1, hu1, hqu⟩ := hs
      obtain ⟨c2, y2, hr, g1, g2, g4⟩ := minus_loop hb k (i + 1) (by omega) (by omega) q (y.set i u) hq1 ⟨by simpa using hy.1, all16_set hy.2 hu1⟩
      refine ⟨c2, y2, ?_, g1, g2, ?_⟩
      · unfold ref02_Minus.L0
        rw [if_pos (by simp; omega)]
        simp only [nm, e2, Int.toNat_natCast]
        rw [req, if_pos (by omega), req, if_pos (by omega), hq, hu]
        exact hr
      · rw [g4, val_set 65536 y i u (by rw [hy.1]; omega), val_drop 65536 (show i < b.length by rw [hb.1]; omega), Int.pow_succ, hqu]
        generalize (65536 : Int) ^ i = E at *
        grind
theorem Minus_eq {a b : List Int} (ha : Num a) (hb : Num b) (hle : nval b ≤ nval a) : ∃ c, ref02_Minus.f a b = some c ∧ Num c ∧ nval c = nval a - nval b := by
  obtain ⟨c', y, h1, h2, h3, h4⟩ := minus_loop hb 17 0 rfl (by omega) 0 a (by omega) ha
  refine ⟨y, ?_, h3, ?_⟩
  · unfold ref02_Minus.f
    have : ref02_Minus.L0 b 17 0 0 a = some y := h1
    rw [this]; rfl
  · simp only [List.drop_zero, Int.pow_zero, Int.mul_one, Int.sub_zero, Int.zero_mul] at h4
    obtain ⟨r0, r1⟩ := nval_range h3
    have e : (65536 : Int) ^ 16 = 2 ^ 256 := by decide
    rw [e] at h4
    have e2 : (2 : Int) ^ 256 = 115792089237316195423570985008687907853269984665640564039457584007913129639936 := by decide
    rw [e2] at h4 r1
    unfold nval at *
    omega

/-! one bit more -/
theorem shift_loop : ∀ (k i : Nat), k + i = 17 → i ≤ 16 → ∀ (c : Int) (y : List Int), 0 ≤ c ∧ c ≤ 1 → Num y →
    ∃ c' y', ref03_bits.L1 k c i y = some y' ∧ (0 ≤ c' ∧ c' ≤ 1) ∧ Num y' ∧ val 65536 y' + c' * 65536 ^ 16 = val 65536 y + val 65536 (y.drop i) * 65536 ^ i + c * 65536 ^ i
  | 0, i, hk, hi, _, _, _, _ => by omega
  | k + 1, i, hk, hi, c, y, hc, hy => by
    by_cases h8 : i = 16
    · subst h8
      refine ⟨c, y, ?_, hc, hy, ?_⟩
      · unfold ref03_bits.L1; simp
      · rw [show y.drop 16 = [] from List.drop_of_length_le (by rw [hy.1]; omega)]; simp [val]
    · have hi8 : i < 16 := by omega
      have gw := get_u16 hy.2 i
      have e2 : IntKind.i64.wrap ((i : Int) + 1) = ((i + 1 : Nat) : Int) := by rw [wrap_small (by omega) (by omega)]; omega
      have hs : ∃ q u : Int, IntKind.u64.wrap (Int.tdiv (IntKind.u64.wrap (IntKind.u64.wrap (2 * y.getD i 0) + c)) 65536) = q ∧ Int.tmod (IntKind.u64.wrap (IntKind.u64.wrap (2 * y.getD i 0) + c)) 65536 = u ∧ (0 ≤ q ∧ q ≤ 1) ∧ U16 u ∧ u = 2 * y.getD i 0 + c - 65536 * q := by
        unfold U16 at *
        generalize y.getD i 0 = a at *
        have w1 : IntKind.u64.wrap (2 * a) = 2 * a := by rw [IntKind.wrap_u64]; omega
        have w2 : IntKind.u64.wrap (2 * a + c) = 2 * a + c := by rw [IntKind.wrap_u64]; omega
        rw [w1, w2, Int.tdiv_eq_ediv_of_nonneg (by omega), Int.tmod_eq_emod_of_nonneg (by omega)]
        have w4 : IntKind.u64.wrap ((2 * a + c) / 65536) = (2 * a + c) / 65536 := by rw [IntKind.wrap_u64]; omega
        rw [w4]
        exact ⟨_, _, rfl, rfl, by omega, by omega, by omega⟩
      obtain ⟨q, u, hq, hu, hq1, hu1, hqu⟩ := hs
      obtain ⟨c2, y2, hr, g1, g2, g4⟩ := shift_loop k (i + 1) (by omega) (by omega) q (y.set i u) hq1 ⟨by simpa using hy.1, all16_set hy.2 hu1⟩
      refine ⟨c2, y2, ?_, g1, g2, ?_⟩
      · unfold ref03_bits.L1
        rw [if_pos (by simp; omega)]
        simp only [nm, e2, Int.toNat_natCast]
        rw [req, if_pos (by omega), req, if_pos (by omega), hq, hu]
        exact hr
      · have hdr : (y.set i u).drop (i + 1) = y.drop (i + 1) := List.drop_set_of_lt (by omega)
        rw [g4, val_set 65536 y i u (by rw [hy.1]; omega), hdr, val_drop 65536 (show i < y.length by rw [hy.1]; omega), Int.pow_succ, hqu]
        generalize (65536 : Int) ^ i = E at *
        grind

/-! bits, from the highest on -/
/-- What bits say, behind a number. -/
def fold2 (l : List Int) (v : Int) : Int := l.foldl (fun a b => 2 * a + b) v
theorem bits_loop {l : List Int} (hl : l.length ≤ 1000000) (hb : ∀ x ∈ l, 0 ≤ x ∧ x ≤ 1) : ∀ (k i : Nat), k + i = l.length + 1 → i ≤ l.length → ∀ (v : Int) (y : List Int), 0 ≤ v → Num y → nval y = v % L →
    ∃ y', ref03_bits.L0 l ordD k i y = some y' ∧ Num y' ∧ nval y' = fold2 (l.drop i) v % L
  | 0, i, hk, hi, _, _, _, _, _ => by omega
  | k + 1, i, hk, hi, v, y, hv, hy, hyv => by
    by_cases hend : i = l.length
    · refine ⟨y, ?_, hy, ?_⟩
      · unfold ref03_bits.L0; simp [hend]
      · rw [List.drop_of_length_le (by omega)]; exact hyv
    · have hlt : i < l.length := by omega
      have hx := hb l[i] (List.getElem_mem hlt)
      have hget : l.getD i 0 = l[i] := by simp [List.getD_eq_getElem?_getD, hlt]
      have e1 : IntKind.u64.wrap (l.getD i 0) = l[i] := by rw [hget, IntKind.wrap_u64]; omega
      have e2 : IntKind.i64.wrap ((i : Int) + 1) = ((i + 1 : Nat) : Int) := by rw [IntKind.wrap_i64]; omega
      obtain ⟨c, z, h1, h2, h3, h4⟩ := shift_loop 17 0 rfl (by omega) l[i] y hx hy
      have hL := mod_range v
      have hz : nval z = 2 * (v % L) + l[i] := by
        simp only [List.drop_zero, Int.pow_zero, Int.mul_one] at h4
        have e : (65536 : Int) ^ 16 = 115792089237316195423570985008687907853269984665640564039457584007913129639936 := by decide
        rw [e] at h4
        obtain ⟨r0, r1⟩ := nval_range h3
        have : L < 7237005577332262213973186563042994240857116359379907606001950938285454250990 := by decide
        unfold nval at *
        omega
      have hz' : ∃ z', (if (!decide (nval z < nval ordD)) = true then (ref02_Minus.f z ordD).bind fun t => some t else some z) = some z' ∧ Num z' ∧ nval z' = (2 * v + l[i]) % L := by
        rw [ord_val, hz]
        have hm : (2 * v + l[i]) % L = (2 * (v % L) + l[i]) % L := by
          rw [Int.add_emod, Int.mul_emod, Int.add_emod (2 * (v % L)), Int.mul_emod 2 (v % L), Int.emod_emod]
        rw [hm]
        by_cases hlt2 : 2 * (v % L) + l[i] < L
        · rw [decide_eq_true hlt2]
          exact ⟨z, rfl, h3, by rw [hz, Int.emod_eq_of_lt (by omega) hlt2]⟩
        · rw [decide_eq_false hlt2]
          obtain ⟨m, m1, m2, m3⟩ := Minus_eq h3 ord_num (by rw [ord_val, hz]; omega)
          refine ⟨m, by rw [m1]; rfl, m2, ?_⟩
          rw [m3, ord_val, hz]
          generalize v % L = u at *
          generalize L = M at *
          rw [← Int.sub_emod_right, Int.emod_eq_of_lt (by omega) (by omega)]
      obtain ⟨z', hz1, hz2, hz3⟩ := hz'
      obtain ⟨y', hr, g1, g2⟩ := bits_loop hl hb k (i + 1) (by omega) (by omega) (2 * v + l[i]) z' (by omega) hz2 hz3
      refine ⟨y', ?_, g1, ?_⟩
      · unfold ref03_bits.L0
        rw [if_pos (by simp; omega), req, if_pos (by omega), req, if_pos (by omega), Int.toNat_natCast, e1]
        have h1' : ref03_bits.L1 17 l[i] 0 y = some z := h1
        rw [h1', Option.bind_some, Less_eq h3 ord_num, Option.bind_some, hz1, Option.bind_some, e2]
        exact hr
      · rw [g2, List.drop_eq_getElem_cons hlt]; rfl
theorem bits_eq {l : List Int} (hl : l.length ≤ 1000000) (hb : ∀ x ∈ l, 0 ≤ x ∧ x ≤ 1) : ∃ n, ref03_bits.f l = some n ∧ Num n ∧ nval n = fold2 l 0 % L := by
  obtain ⟨y, h1, h2, h3⟩ := bits_loop hl hb (l.length + 1) 0 rfl (by omega) 0 (List.replicate 16 0) (by omega) ⟨rfl, fun d hd => by rw [List.eq_of_mem_replicate hd]; unfold U16; omega⟩ (by decide)
  refine ⟨y, ?_, h2, by simpa using h3⟩
  unfold ref03_bits.f
  rw [ord_run, Option.bind_some]
  have : ref03_bits.L0 l ordD (l.length + 1) 0 (List.replicate 16 0) = some y := h1
  rw [this]; rfl

/-- The lowest j bits of a byte, from the highest on. -/
def hb (x : Int) : Nat → List Int
  | 0 => []
  | j + 1 => (x / 2 ^ j % 2) :: hb x j
theorem hb_len (x : Int) : ∀ j, (hb x j).length = j
  | 0 => rfl
  | j + 1 => by simp [hb, hb_len x j]
theorem hb_bits (x : Int) : ∀ j, ∀ b ∈ hb x j, 0 ≤ b ∧ b ≤ 1
  | 0, b, h => by cases h
  | j + 1, b, h => by
    rcases List.mem_cons.1 h with rfl | h
    · omega
    · exact hb_bits x j b h
theorem emod_two (x : Int) {p : Int} (hp : 0 < p) : x % (p * 2) = x % p + p * (x / p % 2) := by
  have hx := Int.emod_add_mul_ediv x p
  have h0 := Int.emod_nonneg x (show p ≠ 0 by omega)
  have h1 := Int.emod_lt_of_pos x hp
  have hq : x / p = x / p % 2 + 2 * (x / p / 2) := by omega
  have e : x = (x % p + p * (x / p % 2)) + p * 2 * (x / p / 2) := by grind
  have hb : x / p % 2 = 0 ∨ x / p % 2 = 1 := by omega
  have h2 : 0 ≤ x % p + p * (x / p % 2) ∧ x % p + p * (x / p % 2) < p * 2 := by
    rcases hb with hb | hb <;> rw [hb] <;> omega
  conv => lhs; rw [e, Int.add_mul_emod_self_left]
  exact Int.emod_eq_of_lt h2.1 h2.2
theorem hb_fold (x : Int) : ∀ (j : Nat) (v : Int), fold2 (hb x j) v = v * 2 ^ j + x % 2 ^ j
  | 0, v => by simp [hb, fold2]
  | j + 1, v => by
    have ih := hb_fold x j (2 * v + x / 2 ^ j % 2)
    show fold2 (hb x j) (2 * v + x / 2 ^ j % 2) = _
    rw [ih, Int.pow_succ]
    rw [emod_two x (Int.pow_pos (by omega))]
    grind
theorem shr8_eq {x : Int} (s : Nat) (hs : s ≤ 8) : ishr .u8 x s = x / 2 ^ s := by
  unfold ishr
  simp only [Int.toNat_natCast, IntKind.bits]
  rw [show min s 8 = s by omega, Int.fdiv_eq_ediv_of_nonneg]
  exact Int.le_of_lt (Int.pow_pos (by omega))
theorem byte_loop {a : List Int} (i : Nat) (hi : i < a.length) (hx : U8 (a.getD i 0)) : ∀ (j : Nat), j ≤ 8 → ∀ (y : List Int), y.length + j ≤ 1000000 →
    ref03_high.L1 a i (j + 1) ((j : Int) - 1) y = some (y ++ hb (a.getD i 0) j)
  | 0, _, y, _ => by unfold ref03_high.L1; simp [hb]
  | j + 1, hj, y, hy => by
    have e1 : (((j + 1 : Nat) : Int) - 1) = (j : Int) := by omega
    have e2 : IntKind.i64.wrap ((j : Int) - 1) = (j : Int) - 1 := by rw [IntKind.wrap_i64]; omega
    have e3 : IntKind.u64.wrap (j : Int) = (j : Int) := by rw [IntKind.wrap_u64]; omega
    have e4 : Int.tmod (a.getD i 0 / 2 ^ j) 2 = a.getD i 0 / 2 ^ j % 2 := Int.tmod_eq_emod_of_nonneg (Int.ediv_nonneg hx.1 (Int.le_of_lt (Int.pow_pos (by omega))))
    unfold ref03_high.L1
    rw [e1, if_pos (by simp), req, if_pos (by omega), req, if_pos (by omega), e3, req, if_pos (by omega)]
    simp only [nm, Int.toNat_natCast, shr8_eq (x := a.getD i 0) j (by omega), e4, e2]
    rw [req, if_pos (by simp; omega), byte_loop i hi hx j (by omega) _ (by simp; omega)]
    simp [hb]
/-- The bits of the first m bytes. -/
def hbs (a : List Int) : Nat → List Int
  | 0 => []
  | m + 1 => hb (a.getD m 0) 8 ++ hbs a m
theorem hbs_len (a : List Int) : ∀ m, (hbs a m).length = 8 * m
  | 0 => rfl
  | m + 1 => by simp [hbs, hb_len, hbs_len a m]; omega
theorem hbs_bits (a : List Int) : ∀ m, ∀ b ∈ hbs a m, 0 ≤ b ∧ b ≤ 1
  | 0, b, h => by cases h
  | m + 1, b, h => by
    rcases List.mem_append.1 h with h | h
    · exact hb_bits _ 8 b h
    · exact hbs_bits a m b h
theorem take_val (B : Int) : ∀ (m : Nat) (ys : List Int), m < ys.length → val B (ys.take (m + 1)) = val B (ys.take m) + ys.getD m 0 * B ^ m := by
  intro m
  induction m with
  | zero => intro ys hm; match ys, hm with
                         | y :: ys, _ => simp [val]
  | succ m ih =>
    intro ys hm
    match ys, hm with
    | y :: ys, hm =>
      have h1 := ih ys (by simpa using hm)
      simp only [List.take_succ_cons, val, List.getD_cons_succ, h1, Int.pow_succ]
      grind
theorem hbs_fold {a : List Int} (ha : ∀ x ∈ a, U8 x) : ∀ (m : Nat), m ≤ a.length → ∀ v, fold2 (hbs a m) v = v * 256 ^ m + val 256 (a.take m)
  | 0, _, v => by simp [hbs, fold2, val]
  | m + 1, hm, v => by
    have hx : U8 (a.getD m 0) := ha _ (by simp [List.getD_eq_getElem?_getD, show m < a.length by omega])
    have e : fold2 (hbs a (m + 1)) v = fold2 (hbs a m) (fold2 (hb (a.getD m 0) 8) v) := by simp [hbs, fold2]
    rw [e, hb_fold, hbs_fold ha m (by omega), take_val 256 m a (by omega), show (256 : Int) ^ (m + 1) = 256 ^ m * 256 from Int.pow_succ _ _]
    unfold U8 at hx
    rw [show (2 : Int) ^ 8 = 256 from rfl, Int.emod_eq_of_lt hx.1 hx.2]
    grind
theorem high_loop {a : List Int} (ha : ∀ x ∈ a, U8 x) (hl : a.length ≤ 10000) : ∀ (m : Nat), m ≤ a.length → ∀ (y : List Int), y.length + 8 * m ≤ 1000000 → ref03_high.L0 a (m + 1) ((m : Int) - 1) y = some (y ++ hbs a m)
  | 0, _, y, _ => by unfold ref03_high.L0; simp [hbs]
  | m + 1, hm, y, hy => by
    have hx : U8 (a.getD m 0) := ha _ (by simp [List.getD_eq_getElem?_getD, show m < a.length by omega])
    have e1 : (((m + 1 : Nat) : Int) - 1) = (m : Int) := by omega
    have e2 : IntKind.i64.wrap ((m : Int) - 1) = (m : Int) - 1 := by rw [IntKind.wrap_i64]; omega
    unfold ref03_high.L0
    rw [e1, if_pos (by simp)]
    have hbl : ref03_high.L1 a m 9 7 y = some (y ++ hb (a.getD m 0) 8) := byte_loop m (by omega) hx 8 (by omega) y (by omega)
    rw [hbl, Option.bind_some, e2, high_loop ha hl m (by omega) _ (by simp [hb_len]; omega)]
    simp [hbs]
theorem high_eq {a : List Int} (ha : ∀ x ∈ a, U8 x) (hl : a.length ≤ 10000) : ref03_high.f a = some (hbs a a.length) := by
  unfold ref03_high.f
  have e : IntKind.i64.wrap ((a.length : Int) - 1) = (a.length : Int) - 1 := by rw [IntKind.wrap_i64]; omega
  rw [e, high_loop ha hl a.length (Nat.le_refl _) [] (by simp; omega)]
  simp

/-! bytes again -/
def by2 (d : Int) : List Int := [IntKind.u8.wrap d, IntKind.u8.wrap (ishr .u64 d (8 : Nat))]
theorem by2_eq {d : Int} (h : U16 d) : by2 d = digits 256 2 d := by
  unfold by2
  rw [shr_eq 8 (by omega), IntKind.wrap_u8, IntKind.wrap_u8, show digits 256 2 d = [d % 256, d / 256 % 256] from rfl, show (2 : Int) ^ 8 = 256 from rfl]
set_option maxRecDepth 100000 in
theorem bytes_run (a0 a1 a2 a3 a4 a5 a6 a7 a8 a9 a10 a11 a12 a13 a14 a15 : Int) : ref02_Bytes.f [a0, a1, a2, a3, a4, a5, a6, a7, a8, a9, a10, a11, a12, a13, a14, a15] =
    some (by2 a0 ++ (by2 a1 ++ (by2 a2 ++ (by2 a3 ++ (by2 a4 ++ (by2 a5 ++ (by2 a6 ++ (by2 a7 ++ (by2 a8 ++ (by2 a9 ++ (by2 a10 ++ (by2 a11 ++ (by2 a12 ++ (by2 a13 ++ (by2 a14 ++ by2 a15))))))))))))))) := by kernel_rfl
theorem digits_cons16 (d r : Int) (hd : U16 d) (m : Nat) : digits 256 2 d ++ digits 256 m r = digits 256 (2 + m) (d + 65536 * r) := by
  rw [← digits_append (by omega) 2 m]
  unfold U16 at hd
  congr 1
  · rw [show digits 256 2 d = [d % 256, d / 256 % 256] from rfl, show digits 256 2 (d + 65536 * r) = [(d + 65536 * r) % 256, (d + 65536 * r) / 256 % 256] from rfl, List.cons.injEq, List.cons.injEq]
    refine ⟨?_, ?_, rfl⟩ <;> omega
  · congr 1; omega
theorem Bytes_eq {n : List Int} (h : Num n) : ref02_Bytes.f n = some (key32 (nval n)) := by
  obtain ⟨hl, hd⟩ := h
  obtain ⟨a0, a1, a2, a3, a4, a5, a6, a7, a8, a9, a10, a11, a12, a13, a14, a15, rfl⟩ := list16 hl
  simp only [List.mem_cons, List.not_mem_nil, or_false, forall_eq_or_imp, forall_eq] at hd
  obtain ⟨A0, A1, A2, A3, A4, A5, A6, A7, A8, A9, A10, A11, A12, A13, A14, A15⟩ := hd
  rw [bytes_run, by2_eq A0, by2_eq A1, by2_eq A2, by2_eq A3, by2_eq A4, by2_eq A5, by2_eq A6, by2_eq A7, by2_eq A8, by2_eq A9, by2_eq A10, by2_eq A11, by2_eq A12, by2_eq A13, by2_eq A14, by2_eq A15]
  rw [digits_cons16 a14 a15 A14, digits_cons16 a13 _ A13, digits_cons16 a12 _ A12, digits_cons16 a11 _ A11, digits_cons16 a10 _ A10, digits_cons16 a9 _ A9, digits_cons16 a8 _ A8, digits_cons16 a7 _ A7, digits_cons16 a6 _ A6, digits_cons16 a5 _ A5, digits_cons16 a4 _ A4, digits_cons16 a3 _ A3, digits_cons16 a2 _ A2, digits_cons16 a1 _ A1, digits_cons16 a0 _ A0]
  simp only [key32, nval, val, Int.mul_zero, Int.add_zero]
theorem refReduce_eq {a : List Int} (ha : ∀ x ∈ a, U8 x) (hl : a.length ≤ 10000) : ref03_Reduce.f a = some (red (val 256 a)) := by
  unfold ref03_Reduce.f
  obtain ⟨n, h1, h2, h3⟩ := bits_eq (l := hbs a a.length) (by rw [hbs_len]; omega) (hbs_bits a a.length)
  rw [high_eq ha hl, Option.bind_some, req, if_pos (by rw [hbs_len]; omega), h1, Option.bind_some, Bytes_eq h2, Option.bind_some, h3, hbs_fold ha a.length (Nat.le_refl _), Int.zero_mul, Int.zero_add, List.take_length]
  rfl
theorem refMay_eq {a : List Int} (ha : Key a) : ref03_May.f a = some (decide (num a < L)) := by
  obtain ⟨n, h1, h2, h3⟩ := Of_eq ha
  unfold ref03_May.f
  rw [h1, Option.bind_some, ord_run, Option.bind_some, Less_eq h2 ord_num, Option.bind_some, ord_val, h3]
/-- Clamped. -/
theorem clamp_small : ((List.range 256).all fun n => iandn .u8 (n : Int) 7 == IntKind.u8.wrap (IntKind.u8.wrap (Int.tdiv n 8) * 8) && ior .u8 (iand .u8 (n : Int) 127) 64 == IntKind.u8.wrap (Int.tmod n 64 + 64)) = true := by kernel_rfl
theorem Clamp_eq {a : List Int} (ha : Key a) : scalar_Clamp.f a = ref03_Clamp.f a := by
  have hs : ∀ x : Int, U8 x → iandn .u8 x 7 = IntKind.u8.wrap (IntKind.u8.wrap (Int.tdiv x 8) * 8) ∧ ior .u8 (iand .u8 x 127) 64 = IntKind.u8.wrap (Int.tmod x 64 + 64) := fun x hx => by
    obtain ⟨n, rfl⟩ := Int.eq_ofNat_of_zero_le hx.1
    have := List.all_eq_true.1 clamp_small n (by have := hx.2; simp; omega)
    simpa using this
  obtain ⟨hl, hb⟩ := ha
  have h0 : U8 (a.getD 0 0) := hb _ (by simp [List.getD_eq_getElem?_getD, hl])
  have h31 : U8 (a.getD 31 0) := hb _ (by simp [List.getD_eq_getElem?_getD, hl])
  unfold scalar_Clamp.f ref03_Clamp.f
  simp only [nm, show (0 : Int).toNat = 0 from rfl, show (31 : Int).toNat = 31 from rfl]
  have e : ∀ v : Int, (a.set 0 v).getD 31 0 = a.getD 31 0 := fun v => by rw [List.getD_eq_getElem?_getD, List.getElem?_set_ne (by omega), ← List.getD_eq_getElem?_getD]
  rw [e, e, (hs _ h0).1, (hs _ h31).2]
end Go.Proofs.Ytillmeddkdcenaa
