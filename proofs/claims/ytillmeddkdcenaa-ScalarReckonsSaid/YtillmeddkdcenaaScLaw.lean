import Derived.Test.YtillmeddkdcenaaSc2
namespace Go.Proofs.Ytillmeddkdcenaa
open Go Go.HW Go.RowKit
set_option linter.unusedVariables false
set_option linter.unusedSimpArgs false

/-! ### rows of digits -/
def U8 (b : Int) : Prop := 0 ≤ b ∧ b < 256
def U64 (w : Int) : Prop := 0 ≤ w ∧ w < 18446744073709551616
/-- What digits say, the lowest first. -/
def val (B : Int) : List Int → Int
  | [] => 0
  | x :: xs => x + B * val B xs
/-- The first n digits of a number. -/
def digits (B : Int) : Nat → Int → List Int
  | 0, _ => []
  | n + 1, v => v % B :: digits B n (v / B)
theorem digits_val {B : Int} (hB : 0 < B) : ∀ (xs : List Int), (∀ x ∈ xs, 0 ≤ x ∧ x < B) → digits B xs.length (val B xs) = xs
  | [], _ => rfl
  | x :: xs, h => by
    obtain ⟨h0, h1⟩ := h x (by simp)
    have e1 : (x + B * val B xs) % B = x := by rw [Int.add_mul_emod_self_left]; exact Int.emod_eq_of_lt h0 h1
    have e2 : (x + B * val B xs) / B = val B xs := by rw [Int.add_mul_ediv_left _ _ (by omega), Int.ediv_eq_zero_of_lt h0 h1]; omega
    show (x + B * val B xs) % B :: digits B xs.length ((x + B * val B xs) / B) = x :: xs
    rw [e1, e2, digits_val hB xs fun y hy => h y (by simp [hy])]
theorem digits_length (B : Int) : ∀ (n : Nat) (v : Int), (digits B n v).length = n
  | 0, _ => rfl
  | n + 1, v => by simp [digits, digits_length B n]
theorem digits_range {B : Int} (hB : 0 < B) : ∀ (n : Nat) (v : Int), ∀ x ∈ digits B n v, 0 ≤ x ∧ x < B
  | 0, _, x, h => by cases h
  | n + 1, v, x, h => by
    rcases List.mem_cons.1 h with rfl | h
    · exact ⟨Int.emod_nonneg _ (by omega), Int.emod_lt_of_pos _ hB⟩
    · exact digits_range hB n _ x h
theorem val_digits {B : Int} (hB : 0 < B) : ∀ (n : Nat) (v : Int), 0 ≤ v → v < B ^ n → val B (digits B n v) = v
  | 0, v, h0, h1 => by simp at h1; simp [digits, val]; omega
  | n + 1, v, h0, h1 => by
    have hlt : v / B < B ^ n := Int.ediv_lt_of_lt_mul hB (by rwa [← Int.pow_succ])
    have := val_digits hB n (v / B) (Int.ediv_nonneg h0 (by omega)) hlt
    show v % B + B * val B (digits B n (v / B)) = v
    rw [this]; exact Int.emod_add_mul_ediv v B
theorem val_nonneg {B : Int} (hB : 0 < B) : ∀ (xs : List Int), (∀ x ∈ xs, 0 ≤ x ∧ x < B) → 0 ≤ val B xs
  | [], _ => by simp [val]
  | x :: xs, h => by
    have h1 := val_nonneg hB xs fun y hy => h y (by simp [hy])
    have h2 := (h x (by simp)).1
    have := Int.mul_nonneg (show 0 ≤ B by omega) h1
    show 0 ≤ x + B * val B xs
    omega
theorem val_lt {B : Int} (hB : 0 < B) : ∀ (xs : List Int), (∀ x ∈ xs, 0 ≤ x ∧ x < B) → val B xs < B ^ xs.length
  | [], _ => by simp [val]
  | x :: xs, h => by
    have h1 := val_lt hB xs fun y hy => h y (by simp [hy])
    have h2 := (h x (by simp)).2
    have h3 : B * (val B xs + 1) ≤ B * B ^ xs.length := Int.mul_le_mul_of_nonneg_left (by omega) (by omega)
    show x + B * val B xs < B ^ (xs.length + 1)
    rw [Int.pow_succ, Int.mul_comm (B ^ xs.length)]
    rw [Int.mul_add] at h3
    omega

/-! ### bytes and words -/
theorem ior_nat {n m : Nat} (hn : n < 2 ^ 64) (hm : m < 2 ^ 64) : ior .u64 (n : Int) (m : Int) = ((n ||| m : Nat) : Int) := by
  have h : n ||| m < 2 ^ 64 := Nat.or_lt_two_pow hn hm
  show IntKind.u64.wrap (((BitVec.ofInt 64 (n : Int) ||| BitVec.ofInt 64 (m : Int)).toNat : Nat) : Int) = _
  rw [IntKind.wrap_u64, BitVec.toNat_or, BitVec.ofInt_natCast, BitVec.ofInt_natCast, BitVec.toNat_ofNat, BitVec.toNat_ofNat, Nat.mod_eq_of_lt hn, Nat.mod_eq_of_lt hm]
  omega
theorem or_shift {x b : Int} (s : Nat) (hs : s ≤ 56) (hx : 0 ≤ x ∧ x < 2 ^ s) (hb : U8 b) : ior .u64 x (ishl .u64 (IntKind.u64.wrap b) s) = x + b * 2 ^ s := by
  obtain ⟨n, rfl⟩ := Int.eq_ofNat_of_zero_le hx.1
  obtain ⟨m, rfl⟩ := Int.eq_ofNat_of_zero_le hb.1
  have hm : m < 256 := by have := hb.2; omega
  have hn : n < 2 ^ s := by have := hx.2; exact_mod_cast this
  have h64 : 2 ^ s * m < 2 ^ 64 := by
    calc 2 ^ s * m < 2 ^ s * 256 := Nat.mul_lt_mul_of_pos_left hm (Nat.two_pow_pos s)
      _ ≤ 2 ^ 56 * 256 := Nat.mul_le_mul_right _ (Nat.pow_le_pow_right (by omega) hs)
      _ = 2 ^ 64 := by decide
  have hn64 : n < 2 ^ 64 := Nat.lt_of_lt_of_le hn (Nat.pow_le_pow_right (by omega) (by omega))
  have e1 : ishl .u64 (IntKind.u64.wrap (m : Int)) (s : Int) = ((2 ^ s * m : Nat) : Int) := by
    unfold ishl
    rw [IntKind.wrap_u64, IntKind.wrap_u64]
    simp only [Int.toNat_natCast, IntKind.bits]
    rw [show min s 64 = s by omega, Int.emod_eq_of_lt (a := (m : Int)) (by omega) (by omega)]
    have : (m : Int) * 2 ^ s = ((2 ^ s * m : Nat) : Int) := by push_cast; rw [Int.mul_comm]
    rw [this]
    omega
  rw [e1, ior_nat hn64 h64, Nat.or_comm, ← Nat.two_pow_add_eq_or_of_lt hn m]
  push_cast
  rw [Int.mul_comm, Int.add_comm]
def wd (b0 b1 b2 b3 b4 b5 b6 b7 : Int) : Int :=
  ior .u64 (ior .u64 (ior .u64 (ior .u64 (ior .u64 (ior .u64 (ior .u64 (ior .u64 0 (ishl .u64 (IntKind.u64.wrap b0) (0 : Nat))) (ishl .u64 (IntKind.u64.wrap b1) (8 : Nat))) (ishl .u64 (IntKind.u64.wrap b2) (16 : Nat))) (ishl .u64 (IntKind.u64.wrap b3) (24 : Nat))) (ishl .u64 (IntKind.u64.wrap b4) (32 : Nat)))
    (ishl .u64 (IntKind.u64.wrap b5) (40 : Nat))) (ishl .u64 (IntKind.u64.wrap b6) (48 : Nat))) (ishl .u64 (IntKind.u64.wrap b7) (56 : Nat))
theorem wd_eq {b0 b1 b2 b3 b4 b5 b6 b7 : Int} (h0 : U8 b0) (h1 : U8 b1) (h2 : U8 b2) (h3 : U8 b3) (h4 : U8 b4) (h5 : U8 b5) (h6 : U8 b6) (h7 : U8 b7) : wd b0 b1 b2 b3 b4 b5 b6 b7 = val 256 [b0, b1, b2, b3, b4, b5, b6, b7] := by
  unfold wd
  unfold U8 at *
  rw [or_shift 0 (by omega) (by omega) h0, or_shift 8 (by omega) (by omega) h1, or_shift 16 (by omega) (by omega) h2, or_shift 24 (by omega) (by omega) h3, or_shift 32 (by omega) (by omega) h4, or_shift 40 (by omega) (by omega) h5, or_shift 48 (by omega) (by omega) h6, or_shift 56 (by omega) (by omega) h7]
  simp only [val]
  omega
set_option maxRecDepth 100000 in
theorem words_run (b0 b1 b2 b3 b4 b5 b6 b7 c0 c1 c2 c3 c4 c5 c6 c7 d0 d1 d2 d3 d4 d5 d6 d7 e0 e1 e2 e3 e4 e5 e6 e7 : Int) :
    scalar_words.f [b0, b1, b2, b3, b4, b5, b6, b7, c0, c1, c2, c3, c4, c5, c6, c7, d0, d1, d2, d3, d4, d5, d6, d7, e0, e1, e2, e3, e4, e5, e6, e7] = some [wd b0 b1 b2 b3 b4 b5 b6 b7, wd c0 c1 c2 c3 c4 c5 c6 c7, wd d0 d1 d2 d3 d4 d5 d6 d7, wd e0 e1 e2 e3 e4 e5 e6 e7] := by kernel_rfl

def ky (w : Int) : List Int := [IntKind.u8.wrap (ishr .u64 w (0 : Nat)), IntKind.u8.wrap (ishr .u64 w (8 : Nat)), IntKind.u8.wrap (ishr .u64 w (16 : Nat)), IntKind.u8.wrap (ishr .u64 w (24 : Nat)), IntKind.u8.wrap (ishr .u64 w (32 : Nat)), IntKind.u8.wrap (ishr .u64 w (40 : Nat)), IntKind.u8.wrap (ishr .u64 w (48 : Nat)), IntKind.u8.wrap (ishr .u64 w (56 : Nat))]
theorem shr_eq {w : Int} (s : Nat) (hs : s ≤ 64) : ishr .u64 w s = w / 2 ^ s := by
  unfold ishr
  simp only [Int.toNat_natCast, IntKind.bits]
  rw [show min s 64 = s by omega, Int.fdiv_eq_ediv_of_nonneg]
  exact Int.le_of_lt (Int.pow_pos (by omega))
theorem ky_eq {w : Int} (h : U64 w) : ky w = digits 256 8 w := by
  unfold ky
  rw [shr_eq 0 (by omega), shr_eq 8 (by omega), shr_eq 16 (by omega), shr_eq 24 (by omega), shr_eq 32 (by omega), shr_eq 40 (by omega), shr_eq 48 (by omega), shr_eq 56 (by omega)]
  simp only [IntKind.wrap_u8, digits]
  unfold U64 at h
  simp only [List.cons.injEq, and_true]
  refine ⟨?_, ?_, ?_, ?_, ?_, ?_, ?_, ?_⟩ <;> omega
set_option maxRecDepth 100000 in
theorem key_run (w0 w1 w2 w3 : Int) : scalar_key.f [w0, w1, w2, w3] = some (ky w0 ++ ky w1 ++ ky w2 ++ ky w3) := by kernel_rfl

theorem digits_append {B : Int} (hB : 0 < B) : ∀ (n m : Nat) (v : Int), digits B n v ++ digits B m (v / B ^ n) = digits B (n + m) v
  | 0, m, v => by simp [digits]
  | n + 1, m, v => by
    have := digits_append hB n m (v / B)
    rw [Int.ediv_ediv_of_nonneg (by omega)] at this
    rw [show n + 1 + m = (n + m) + 1 by omega]
    show v % B :: (digits B n (v / B) ++ digits B m (v / B ^ (n + 1))) = v % B :: digits B (n + m) (v / B)
    rw [Int.pow_succ, Int.mul_comm, this]
/-- The digits of what words say. -/
theorem digits_cons (w r : Int) (hw : U64 w) (m : Nat) : digits 256 8 w ++ digits 256 m r = digits 256 (8 + m) (w + 18446744073709551616 * r) := by
  rw [← digits_append (by omega) 8 m]
  unfold U64 at hw
  congr 1
  · simp only [digits, List.cons.injEq, and_true]
    refine ⟨?_, ?_, ?_, ?_, ?_, ?_, ?_, ?_⟩ <;> omega
  · congr 1; omega
theorem key_eq {w0 w1 w2 w3 : Int} (h0 : U64 w0) (h1 : U64 w1) (h2 : U64 w2) (h3 : U64 w3) : scalar_key.f [w0, w1, w2, w3] = some (digits 256 32 (val 18446744073709551616 [w0, w1, w2, w3])) := by
  rw [key_run, ky_eq h0, ky_eq h1, ky_eq h2, ky_eq h3]
  have e3 : digits 256 8 w3 = digits 256 8 (w3 + 18446744073709551616 * 0) := by rw [Int.mul_zero, Int.add_zero]
  rw [List.append_assoc, List.append_assoc, digits_cons w2 w3 h2, digits_cons w1 _ h1, digits_cons w0 _ h0]
  simp only [val, Int.mul_zero, Int.add_zero]

theorem list32 {xs : List Int} (h : xs.length = 32) : ∃ b0 b1 b2 b3 b4 b5 b6 b7 c0 c1 c2 c3 c4 c5 c6 c7 d0 d1 d2 d3 d4 d5 d6 d7 e0 e1 e2 e3 e4 e5 e6 e7, xs = [b0, b1, b2, b3, b4, b5, b6, b7, c0, c1, c2, c3, c4, c5, c6, c7, d0, d1, d2, d3, d4, d5, d6, d7, e0, e1, e2, e3, e4, e5, e6, e7] := by
  match xs, h with
  | [b0, b1, b2, b3, b4, b5, b6, b7, c0, c1, c2, c3, c4, c5, c6, c7, d0, d1, d2, d3, d4, d5, d6, d7, e0, e1, e2, e3, e4, e5, e6, e7], _ => exact ⟨b0, b1, b2, b3, b4, b5, b6, b7, c0, c1, c2, c3, c4, c5, c6, c7, d0, d1, d2, d3, d4, d5, d6, d7, e0, e1, e2, e3, e4, e5, e6, e7, rfl⟩
/-- 32 bytes. -/
def Key (a : List Int) : Prop := a.length = 32 ∧ ∀ x ∈ a, U8 x
abbrev num (a : List Int) : Int := val 256 a
theorem words_eq {a : List Int} (h : Key a) : ∃ w0 w1 w2 w3, scalar_words.f a = some [w0, w1, w2, w3] ∧ U64 w0 ∧ U64 w1 ∧ U64 w2 ∧ U64 w3 ∧ val 18446744073709551616 [w0, w1, w2, w3] = num a := by
  obtain ⟨hl, hb⟩ := h
  obtain ⟨b0, b1, b2, b3, b4, b5, b6, b7, c0, c1, c2, c3, c4, c5, c6, c7, d0, d1, d2, d3, d4, d5, d6, d7, e0, e1, e2, e3, e4, e5, e6, e7, rfl⟩ := list32 hl
  have B : ∀ x0 x1 x2 x3 x4 x5 x6 x7 : Int, (∀ x ∈ [x0, x1, x2, x3, x4, x5, x6, x7], U8 x) → wd x0 x1 x2 x3 x4 x5 x6 x7 = val 256 [x0, x1, x2, x3, x4, x5, x6, x7] ∧ U64 (wd x0 x1 x2 x3 x4 x5 x6 x7) := by
    intro x0 x1 x2 x3 x4 x5 x6 x7 hx
    have e := wd_eq (hx x0 (by simp)) (hx x1 (by simp)) (hx x2 (by simp)) (hx x3 (by simp)) (hx x4 (by simp)) (hx x5 (by simp)) (hx x6 (by simp)) (hx x7 (by simp))
    refine ⟨e, ?_⟩
    rw [e]
    have h0 := val_nonneg (B := 256) (by omega) [x0, x1, x2, x3, x4, x5, x6, x7] hx
    have h1 := val_lt (B := 256) (by omega) [x0, x1, x2, x3, x4, x5, x6, x7] hx
    exact ⟨h0, by simpa using h1⟩
  obtain ⟨p0, q0⟩ := B b0 b1 b2 b3 b4 b5 b6 b7 fun x hx => hb x (by simp at hx ⊢; grind)
  obtain ⟨p1, q1⟩ := B c0 c1 c2 c3 c4 c5 c6 c7 fun x hx => hb x (by simp at hx ⊢; grind)
  obtain ⟨p2, q2⟩ := B d0 d1 d2 d3 d4 d5 d6 d7 fun x hx => hb x (by simp at hx ⊢; grind)
  obtain ⟨p3, q3⟩ := B e0 e1 e2 e3 e4 e5 e6 e7 fun x hx => hb x (by simp at hx ⊢; grind)
  refine ⟨_, _, _, _, words_run _ _ _ _ _ _ _ _ _ _ _ _ _ _ _ _ _ _ _ _ _ _ _ _ _ _ _ _ _ _ _ _, q0, q1, q2, q3, ?_⟩
  rw [p0, p1, p2, p3]
  simp only [val]
  omega

/-! ### L -/
abbrev L : Int := 7237005577332262213973186563042994240857116359379907606001950938285454250989
theorem less_run (w0 w1 w2 w3 : Int) : scalar_less.f [w0, w1, w2, w3] =
    let b1 := sub64c w0 6346243789798364141 0
    let b2 := sub64c w1 1503914060200516822 b1
    let b3 := sub64c w2 0 b2
    let b4 := sub64c w3 1152921504606846976 b3
    if (b4 == 0) = true then some [sub64 w0 6346243789798364141 0, sub64 w1 1503914060200516822 b1, sub64 w2 0 b2, sub64 w3 1152921504606846976 b3] else some [w0, w1, w2, w3] := by
  have hc : ∀ x y b, sub64c x y b ≤ 1 := fun x y b => by unfold sub64c; split <;> simp
  unfold scalar_less.f
  simp only [scalar_order.f, Option.bind_some]
  simp [scalar_less.L0, req, nm, hc, List.replicate, IntKind.wrap_i64]

theorem sub64_eq {x y b : Int} (hx : U64 x) (hy : U64 y) (hb : 0 ≤ b ∧ b ≤ 1) : sub64 x y b = (x - y - b) % 18446744073709551616 ∧ sub64c x y b = if x < y + b then 1 else 0 := by
  unfold U64 at *
  constructor
  · unfold sub64; omega
  · unfold sub64c
    by_cases h : x < y + b
    · rw [if_pos h, if_pos (by omega)]; rfl
    · rw [if_neg h, if_neg (by omega)]; rfl
theorem add64_eq {x y c : Int} (hx : U64 x) (hy : U64 y) (hc : 0 ≤ c ∧ c ≤ 1) : add64 x y c = (x + y + c) % 18446744073709551616 ∧ add64c x y c = (x + y + c) / 18446744073709551616 := by
  unfold U64 at *
  constructor
  · unfold add64; omega
  · unfold add64c; omega
theorem less_eq {w0 w1 w2 w3 : Int} (h0 : U64 w0) (h1 : U64 w1) (h2 : U64 w2) (h3 : U64 w3) : ∃ r0 r1 r2 r3, scalar_less.f [w0, w1, w2, w3] = some [r0, r1, r2, r3] ∧ U64 r0 ∧ U64 r1 ∧ U64 r2 ∧ U64 r3 ∧
    val 18446744073709551616 [r0, r1, r2, r3] = if val 18446744073709551616 [w0, w1, w2, w3] < L then val 18446744073709551616 [w0, w1, w2, w3] else val 18446744073709551616 [w0, w1, w2, w3] - L := by
  rw [less_run]
  dsimp only
  obtain ⟨s0, c0⟩ := sub64_eq (b := 0) h0 (show U64 6346243789798364141 by unfold U64; omega) (by omega)
  generalize e1 : sub64c w0 6346243789798364141 0 = b1 at *
  obtain ⟨s1, c1⟩ := sub64_eq (b := b1) h1 (show U64 1503914060200516822 by unfold U64; omega) (by omega)
  generalize e2 : sub64c w1 1503914060200516822 b1 = b2 at *
  obtain ⟨s2, c2⟩ := sub64_eq (b := b2) h2 (show U64 0 by unfold U64; omega) (by omega)
  generalize e3 : sub64c w2 0 b2 = b3 at *
  obtain ⟨s3, c3⟩ := sub64_eq (b := b3) h3 (show U64 1152921504606846976 by unfold U64; omega) (by omega)
  generalize e4 : sub64c w3 1152921504606846976 b3 = b4 at *
  rw [s0, s1, s2, s3]
  unfold U64 at *
  clear e1 e2 e3 e4 s0 s1 s2 s3
  by_cases hb : b4 = 0
  · rw [if_pos (by simp [hb])]
    refine ⟨_, _, _, _, rfl, ?_, ?_, ?_, ?_, ?_⟩
    · omega
    · omega
    · omega
    · omega
    · split
      · rename_i hlt; simp only [val, L] at hlt ⊢; omega
      · simp only [val, L]; omega
  · rw [if_neg (by simp [hb])]
    refine ⟨_, _, _, _, rfl, h0, h1, h2, h3, ?_⟩
    split
    · rfl
    · rename_i hlt; simp only [val, L] at hlt ⊢; omega

/-! ### long division, bit by bit -/
theorem shl1_eq {r x : Int} (hr : U64 r) (hx : 0 ≤ x ∧ x ≤ 1) : ior .u64 (ishl .u64 r 1) x = (2 * r) % 18446744073709551616 + x := by
  unfold U64 at hr
  obtain ⟨m, rfl⟩ := Int.eq_ofNat_of_zero_le hx.1
  have e1 : ishl .u64 r 1 = ((2 ^ 1 * ((r.toNat) % 2 ^ 63) : Nat) : Int) := by
    unfold ishl
    rw [IntKind.wrap_u64]
    simp only [IntKind.bits, show (1 : Int).toNat = 1 from rfl, show min 1 64 = 1 from rfl]
    omega
  have hm : m < 2 ^ 1 := by omega
  rw [e1, ior_nat (by omega) (by omega), Nat.or_comm, Nat.or_comm, ← Nat.two_pow_add_eq_or_of_lt hm]
  omega
theorem shr63_eq {r : Int} (hr : U64 r) : ishr .u64 r 63 = r / 9223372036854775808 := by
  have := shr_eq (w := r) 63 (by omega)
  simpa using this
theorem shift_run (x r0 r1 r2 r3 : Int) : scalar_reduce.L1 5 x 0 [r0, r1, r2, r3] =
    some [ior .u64 (ishl .u64 r0 1) x, ior .u64 (ishl .u64 r1 1) (ishr .u64 r0 63), ior .u64 (ishl .u64 r2 1) (ishr .u64 r1 63), ior .u64 (ishl .u64 r3 1) (ishr .u64 r2 63)] := by kernel_rfl
theorem shift_eq {x r0 r1 r2 r3 : Int} (hx : 0 ≤ x ∧ x ≤ 1) (h0 : U64 r0) (h1 : U64 r1) (h2 : U64 r2) (h3 : U64 r3) (hv : val 18446744073709551616 [r0, r1, r2, r3] < L) :
    ∃ s0 s1 s2 s3, scalar_reduce.L1 5 x 0 [r0, r1, r2, r3] = some [s0, s1, s2, s3] ∧ U64 s0 ∧ U64 s1 ∧ U64 s2 ∧ U64 s3 ∧ val 18446744073709551616 [s0, s1, s2, s3] = 2 * val 18446744073709551616 [r0, r1, r2, r3] + x := by
  refine ⟨_, _, _, _, shift_run .., ?_⟩
  have g0 := h0; have g1 := h1; have g2 := h2; have g3 := h3
  unfold U64 at g0 g1 g2 g3
  rw [shr63_eq h0, shr63_eq h1, shr63_eq h2, shl1_eq h0 hx, shl1_eq h1 (by omega), shl1_eq h2 (by omega), shl1_eq h3 (by omega)]
  simp only [val, L] at hv ⊢
  unfold U64
  refine ⟨?_, ?_, ?_, ?_, ?_⟩ <;> omega

theorem step_eq {v : Int} {r0 r1 r2 r3 x : Int} (hx : 0 ≤ x ∧ x ≤ 1) (h0 : U64 r0) (h1 : U64 r1) (h2 : U64 r2) (h3 : U64 r3) (hv : val 18446744073709551616 [r0, r1, r2, r3] = v % L) :
    ∃ s0 s1 s2 s3, ((scalar_reduce.L1 5 x 0 [r0, r1, r2, r3]).bind fun z => scalar_less.f z) = some [s0, s1, s2, s3] ∧ U64 s0 ∧ U64 s1 ∧ U64 s2 ∧ U64 s3 ∧ val 18446744073709551616 [s0, s1, s2, s3] = (2 * v + x) % L := by
  have hL : 0 < L := by decide
  have hlt := Int.emod_lt_of_pos v hL
  have hnn := Int.emod_nonneg v (show L ≠ 0 by decide)
  obtain ⟨a0, a1, a2, a3, e, k0, k1, k2, k3, hva⟩ := shift_eq hx h0 h1 h2 h3 (by rw [hv]; exact hlt)
  obtain ⟨s0, s1, s2, s3, f, m0, m1, m2, m3, hvs⟩ := less_eq k0 k1 k2 k3
  refine ⟨s0, s1, s2, s3, by rw [e]; exact f, m0, m1, m2, m3, ?_⟩
  have this : (2 * v + x) % L = (2 * (v % L) + x) % L := by
    rw [Int.add_emod, Int.mul_emod, Int.add_emod (2 * (v % L)), Int.mul_emod 2 (v % L), Int.emod_emod]
  rw [hv] at hva
  rw [hvs, this]
  generalize v % L = u at *
  by_cases hlt2 : 2 * u + x < L
  · rw [if_pos (by rw [hva]; exact hlt2), hva, Int.emod_eq_of_lt (by omega) hlt2]
  · rw [if_neg (by rw [hva]; exact hlt2), hva, ← Int.sub_emod_right, Int.emod_eq_of_lt (by omega) (by omega)]

/-- The number of eight words, from its highest bit on. -/
theorem bit_at {xs : List Int} (hl : xs.length = 8) (hx : ∀ x ∈ xs, U64 x) (j : Nat) (hj : j < 512) : (xs.getD (j / 64) 0) / 2 ^ (j % 64) % 2 = (val 18446744073709551616 xs) / 2 ^ j % 2 := by
  match xs, hl with
  | [x0, x1, x2, x3, x4, x5, x6, x7], _ =>
    have H : ∀ (ys : List Int), (∀ y ∈ ys, U64 y) → ∀ (q r : Nat), r < 64 → (ys.getD q 0) / 2 ^ r % 2 = (val 18446744073709551616 ys) / 2 ^ (64 * q + r) % 2 := by
      intro ys
      induction ys with
      | nil => intro _ q r _; simp [val]
      | cons y ys ih =>
        intro hy q r hr
        have hyu := hy y (by simp)
        unfold U64 at hyu
        have hv0 : 0 ≤ val 18446744073709551616 ys := val_nonneg (by omega) ys (fun z hz => hy z (by simp [hz]))
        cases q with
        | zero =>
          simp only [List.getD_cons_zero, Nat.mul_zero, Nat.zero_add, val]
          have e : (18446744073709551616 : Int) = 2 ^ r * (2 * 2 ^ (63 - r)) := by
            rw [← Int.pow_succ', ← Int.pow_add]
            rw [show r + (63 - r).succ = 64 by omega]; rfl
          rw [e, Int.mul_assoc, Int.add_mul_ediv_left _ _ (by have := Int.pow_pos (n := 2) (m := r) (by omega); omega), Int.mul_assoc 2, Int.add_mul_emod_self_left]
        | succ q =>
          have e : (2 : Int) ^ (64 * (q + 1) + r) = 18446744073709551616 * 2 ^ (64 * q + r) := by
            rw [show 64 * (q + 1) + r = 64 + (64 * q + r) by omega, Int.pow_add]; rfl
          simp only [List.getD_cons_succ, val]
          rw [ih (fun z hz => hy z (by simp [hz])) q r hr, e, ← Int.ediv_ediv_of_nonneg (by omega)]
          congr 2
          rw [Int.add_mul_ediv_left _ _ (by omega), Int.ediv_eq_zero_of_lt hyu.1 hyu.2]; omega
    have := H _ hx (j / 64) (j % 64) (Nat.mod_lt _ (by omega))
    rw [this, show 64 * (j / 64) + j % 64 = j by omega]

theorem iand1 {x : Int} (hx : U64 x) : iand .u64 x 1 = x % 2 := by
  obtain ⟨n, rfl⟩ := Int.eq_ofNat_of_zero_le hx.1
  have hn : n < 2 ^ 64 := by have := hx.2; omega
  show IntKind.u64.wrap (((BitVec.ofInt 64 (n : Int) &&& BitVec.ofInt 64 1).toNat : Nat) : Int) = _
  rw [IntKind.wrap_u64, BitVec.toNat_and, BitVec.ofInt_natCast, BitVec.toNat_ofNat, Nat.mod_eq_of_lt hn, show (BitVec.ofInt 64 1).toNat = 1 from rfl, Nat.and_one_is_mod]
  omega
theorem wrap_small {n : Int} (h0 : 0 ≤ n) (h1 : n < 1000) : IntKind.i64.wrap n = n := by rw [IntKind.wrap_i64]; omega
theorem reduce_loop {xs : List Int} (hl : xs.length = 8) (hx : ∀ x ∈ xs, U64 x) : ∀ (k i : Nat), k + i = 513 → i ≤ 512 → ∀ r0 r1 r2 r3 : Int, U64 r0 → U64 r1 → U64 r2 → U64 r3 → val 18446744073709551616 [r0, r1, r2, r3] = (val 18446744073709551616 xs / 2 ^ (512 - i)) % L →
    ∃ s0 s1 s2 s3, scalar_reduce.L0 xs k i [r0, r1, r2, r3] = some [s0, s1, s2, s3] ∧ U64 s0 ∧ U64 s1 ∧ U64 s2 ∧ U64 s3 ∧ val 18446744073709551616 [s0, s1, s2, s3] = val 18446744073709551616 xs % L
  | 0, i, hk, hi0, r0, r1, r2, r3, h0, h1, h2, h3, hv => by
    exfalso
    omega
  | k + 1, i, hk, hi0, r0, r1, r2, r3, h0, h1, h2, h3, hv => by
    by_cases hi : i = 512
    · subst hi
      refine ⟨r0, r1, r2, r3, ?_, h0, h1, h2, h3, ?_⟩
      · unfold scalar_reduce.L0; simp
      · simpa using hv
    · have hi2 : i < 512 := by omega
      have e1 : IntKind.i64.wrap (Int.tdiv (i : Int) 64) = ((i / 64 : Nat) : Int) := by
        rw [Int.tdiv_eq_ediv_of_nonneg (by omega), wrap_small (by omega) (by omega)]; omega
      have e2 : IntKind.i64.wrap (7 - ((i / 64 : Nat) : Int)) = ((7 - i / 64 : Nat) : Int) := by rw [wrap_small (by omega) (by omega)]; omega
      have e3 : IntKind.i64.wrap (63 - Int.tmod (i : Int) 64) = ((63 - i % 64 : Nat) : Int) := by
        rw [Int.tmod_eq_emod_of_nonneg (by omega), wrap_small (by omega) (by omega)]; omega
      have e4 : IntKind.i64.wrap ((i : Int) + 1) = ((i + 1 : Nat) : Int) := by rw [wrap_small (by omega) (by omega)]; omega
      have hw : U64 (xs.getD (7 - i / 64) 0) := hx _ (by
        have hlt : 7 - i / 64 < xs.length := by omega
        simp [List.getD_eq_getElem?_getD, hlt])
      have hs : U64 (ishr .u64 (xs.getD (7 - i / 64) 0) ((63 - i % 64 : Nat) : Int)) := by
        rw [shr_eq _ (by omega)]
        unfold U64 at hw ⊢
        have hp : (0 : Int) < 2 ^ (63 - i % 64) := Int.pow_pos (by omega)
        exact ⟨Int.ediv_nonneg hw.1 (by omega), Int.lt_of_le_of_lt (Int.ediv_le_self _ hw.1) hw.2⟩
      have hbit : iand .u64 (ishr .u64 (xs.getD (7 - i / 64) 0) ((63 - i % 64 : Nat) : Int)) 1 = (val 18446744073709551616 xs) / 2 ^ (511 - i) % 2 := by
        rw [iand1 hs, shr_eq _ (by omega), ← bit_at hl hx (511 - i) (by omega)]
        rw [show (511 - i) / 64 = 7 - i / 64 by omega, show (511 - i) % 64 = 63 - i % 64 by omega]
      obtain ⟨s0, s1, s2, s3, hs1, k0, k1, k2, k3, hvs⟩ := step_eq (x := val 18446744073709551616 xs / 2 ^ (511 - i) % 2) (by omega) h0 h1 h2 h3 hv
      have hvs' : val 18446744073709551616 [s0, s1, s2, s3] = (val 18446744073709551616 xs / 2 ^ (512 - (i + 1))) % L := by
        rw [hvs]
        congr 1
        have e : val 18446744073709551616 xs / 2 ^ (512 - i) = val 18446744073709551616 xs / 2 ^ (511 - i) / 2 := by
          rw [show 512 - i = (511 - i) + 1 by omega, Int.pow_succ, Int.ediv_ediv_of_nonneg (Int.le_of_lt (Int.pow_pos (by omega)))]
        rw [e, show 512 - (i + 1) = 511 - i by omega]
        omega
      obtain ⟨t0, t1, t2, t3, ht, m0, m1, m2, m3, hvt⟩ := reduce_loop hl hx k (i + 1) (by omega) (by omega) s0 s1 s2 s3 k0 k1 k2 k3 hvs'
      refine ⟨t0, t1, t2, t3, ?_, m0, m1, m2, m3, hvt⟩
      unfold scalar_reduce.L0
      rw [if_pos (by simp; omega)]
      simp only [nm, e1, e2, e3, e4, Int.toNat_natCast]
      rw [req, if_pos (by omega), req, if_pos (by omega), req, if_pos (by omega), hbit]
      cases hL : scalar_reduce.L1 5 (val 18446744073709551616 xs / 2 ^ (511 - i) % 2) 0 [r0, r1, r2, r3] with
      | none => rw [hL] at hs1; cases hs1
      | some z =>
        rw [hL] at hs1
        simp only [Option.bind_some] at hs1 ⊢
        rw [hs1]
        exact ht
theorem reduce_eq {xs : List Int} (hl : xs.length = 8) (hx : ∀ x ∈ xs, U64 x) : ∃ s0 s1 s2 s3, scalar_reduce.f xs = some [s0, s1, s2, s3] ∧ U64 s0 ∧ U64 s1 ∧ U64 s2 ∧ U64 s3 ∧ val 18446744073709551616 [s0, s1, s2, s3] = val 18446744073709551616 xs % L := by
  have hz : U64 0 := by unfold U64; omega
  have hv : val 18446744073709551616 [0, 0, 0, 0] = (val 18446744073709551616 xs / 2 ^ (512 - 0)) % L := by
    have h0 := val_nonneg (B := 18446744073709551616) (by omega) xs hx
    have h1 := val_lt (B := 18446744073709551616) (by omega) xs hx
    rw [hl] at h1
    have e : (18446744073709551616 : Int) ^ 8 = 2 ^ (512 - 0) := by rw [show (18446744073709551616 : Int) = 2 ^ 64 from rfl, ← Int.pow_mul]
    rw [e] at h1
    rw [Int.ediv_eq_zero_of_lt h0 h1]
    rfl
  obtain ⟨s0, s1, s2, s3, hs, m0, m1, m2, m3, hvs⟩ := reduce_loop hl hx 513 0 (by omega) (by omega) 0 0 0 0 hz hz hz hz hv
  refine ⟨s0, s1, s2, s3, ?_, m0, m1, m2, m3, hvs⟩
  unfold scalar_reduce.f
  have : scalar_reduce.L0 xs 513 0 (List.replicate 4 0) = some [s0, s1, s2, s3] := hs
  rw [this]; rfl
end Go.Proofs.Ytillmeddkdcenaa
