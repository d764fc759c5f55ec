import Derived.Test.YtjhknfpociahoaaDoorDe7
namespace Go.Proofs.YtjhknfpociahoaaDoor
open Go Go.HW Go.RowKit
set_option linter.unusedVariables false
set_option linter.unusedSimpArgs false

/-! ### small things -/
theorem rq {α : Type} {p : Prop} [Decidable p] {x : Option α} (h : p) : req p x = x := if_pos h
@[simp] theorem nmE {α β : Type} (x : α) (f : α → Option β) : nm x f = f x := rfl
@[simp] theorem onw_inl {A B Z : Type} (a : A) (f : A → Option Z) (g : B → Option Z) : onw (some (.inl a)) f g = f a := rfl
@[simp] theorem onw_inr {A B Z : Type} (b : B) (f : A → Option Z) (g : B → Option Z) : onw (some (.inr b)) f g = g b := rfl
theorem w64 {n : Int} (h0 : -9223372036854775808 ≤ n) (h1 : n ≤ 9223372036854775807) : IntKind.i64.wrap n = n := IntWalk.i64_in n ⟨h0, h1⟩
theorem wu64 {n : Int} (h0 : 0 ≤ n) (h1 : n ≤ 18446744073709551615) : IntKind.u64.wrap n = n := IntWalk.u64_in n ⟨h0, h1⟩
theorem wu8 {n : Int} (h0 : 0 ≤ n) (h1 : n ≤ 255) : IntKind.u8.wrap n = n := IntWalk.u8_in n ⟨h0, h1⟩
theorem td (a b : Nat) : Int.tdiv (a : Int) (b : Int) = ((a / b : Nat) : Int) := rfl
theorem tm (a b : Nat) : Int.tmod (a : Int) (b : Int) = ((a % b : Nat) : Int) := rfl

theorem and_mask (n k : Nat) (h : k ≤ 64) (hn : n < 2 ^ 64) : iand .u64 (n : Int) ((2 ^ k - 1 : Nat) : Int) = ((n % 2 ^ k : Nat) : Int) := by
  have hk : 2 ^ k ≤ 2 ^ 64 := Nat.pow_le_pow_right (by omega) h
  unfold iand
  have e : (BitVec.ofInt 64 (n : Int) &&& BitVec.ofInt 64 ((2 ^ k - 1 : Nat) : Int)).toNat = n % 2 ^ k := by
    rw [BitVec.toNat_and, BitVec.ofInt_natCast, BitVec.ofInt_natCast, BitVec.toNat_ofNat, BitVec.toNat_ofNat, Nat.mod_eq_of_lt hn, Nat.mod_eq_of_lt (by omega), Nat.and_two_pow_sub_one_eq_mod]
  rw [show IntKind.u64.bits = 64 from rfl, e, IntKind.wrap_u64]
  have : n % 2 ^ k < 2 ^ k := Nat.mod_lt _ (Nat.two_pow_pos k)
  omega
theorem and127 (n : Nat) (hn : n < 2 ^ 64) : iand .u64 (n : Int) 127 = ((n % 128 : Nat) : Int) := and_mask n 7 (by omega) hn
theorem shr7 (n : Nat) : ishr .u64 (n : Int) 7 = ((n / 128 : Nat) : Int) := by
  show Int.fdiv (n : Int) (2 ^ 7) = _
  rw [Int.fdiv_eq_ediv_of_nonneg _ (by decide)]; norm_cast
theorem or128_all : ∀ t : Fin 128, ior .u8 (t.val : Int) 128 = ((t.val + 128 : Nat) : Int) := by decide +kernel
theorem or128 (t : Nat) (h : t < 128) : ior .u8 (t : Int) 128 = ((t + 128 : Nat) : Int) := or128_all ⟨t, h⟩

/-! ### groups -/
/-- The groups of seven bits ahead of the last one. -/
def hi7 : Nat → Nat → List Int
  | 0, _ => []
  | k + 1, n => if n = 0 then [] else hi7 k (n / 128) ++ [((n % 128 + 128 : Nat) : Int)]
/-- A number in groups of seven bits. -/
def grp (n : Nat) : List Int := hi7 10 (n / 128) ++ [((n % 128 : Nat) : Int)]
theorem hi7_len : ∀ k n, (hi7 k n).length ≤ k
  | 0, _ => by simp [hi7]
  | k + 1, n => by unfold hi7; split <;> simp; exact hi7_len k _
theorem rgroups_L0 : ∀ (d : Nat) (x : Nat) (y : List Int) (k : Nat), x < 128 ^ d → x < k → d ≤ 10 → y.length + d ≤ 1099511627776 → ref13_groups.L0 k y (x : Int) = some (hi7 d x ++ y)
  | 0, x, y, k, h, hk, _, _ => by
    have : x = 0 := by simpa using h
    subst this
    obtain ⟨k, rfl⟩ : ∃ q, k = q + 1 := ⟨k - 1, by omega⟩
    simp [ref13_groups.L0, hi7]
  | d + 1, x, y, k, h, hk, hd, hl => by
    obtain ⟨k, rfl⟩ : ∃ q, k = q + 1 := ⟨k - 1, by omega⟩
    unfold ref13_groups.L0 hi7
    rcases Nat.eq_zero_or_pos x with rfl | hx
    · simp
    · have hb : x < 2 ^ 70 := Nat.lt_of_lt_of_le h (by have : 128 ^ (d + 1) ≤ 128 ^ 10 := Nat.pow_le_pow_right (by omega) hd
                                                       exact this)
      have e1 : (Int.tmod (x : Int) 128) = ((x % 128 : Nat) : Int) := tm x 128
      have e2 : (Int.tdiv (x : Int) 128) = ((x / 128 : Nat) : Int) := td x 128
      have b2 : x / 128 < 2 ^ 63 := by omega
      rw [if_pos (by simpa using hx), if_neg (by omega), e1, e2, wu64 (by omega) (by omega), wu64 (by omega) (by omega), wu8 (by omega) (by omega), nmE, rq (by simp; omega)]
      rw [show ((x % 128 : Nat) : Int) + 128 = ((x % 128 + 128 : Nat) : Int) by omega]
      rw [rgroups_L0 d (x / 128) _ k (by rw [Nat.pow_succ] at h; omega) (by omega) (by omega) (by simp; omega)]
      simp
theorem rgroups_eq (n : Nat) (h : n < 2 ^ 64) : ref13_groups.f (n : Int) = some (grp n) := by
  unfold ref13_groups.f grp
  have e1 : (Int.tmod (n : Int) 128) = ((n % 128 : Nat) : Int) := tm n 128
  have e2 : (Int.tdiv (n : Int) 128) = ((n / 128 : Nat) : Int) := td n 128
  rw [e1, e2, wu64 (by omega) (by omega), wu8 (by omega) (by omega), Int.toNat_natCast, rgroups_L0 10 (n / 128) _ _ (by omega) (by omega) (by omega) (by simp)]
  rfl
theorem dgroups_L0 : ∀ (d : Nat) (x : Nat) (y : List Int) (k : Nat), x < 2 ^ 64 → x / 128 < 128 ^ d → d < k → y.length + d ≤ 1099511627776 → der_groups.L0 k y (x : Int) = some (hi7 d (x / 128) ++ y)
  | 0, x, y, k, hx, h, hk, _ => by
    have : x / 128 = 0 := by simpa using h
    obtain ⟨k, rfl⟩ : ∃ q, k = q + 1 := ⟨k - 1, by omega⟩
    unfold der_groups.L0
    rw [shr7, this]; simp [hi7]
  | d + 1, x, y, k, hx, h, hk, hl => by
    obtain ⟨k, rfl⟩ : ∃ q, k = q + 1 := ⟨k - 1, by omega⟩
    unfold der_groups.L0 hi7
    rw [shr7]
    rcases Nat.eq_zero_or_pos (x / 128) with h0 | h0
    · rw [h0]; simp
    · rw [if_pos (by simp; omega), if_neg (by omega), and127 _ (by omega), nmE, wu8 (by omega) (by omega), or128 _ (by omega), rq (by simp; omega)]
      rw [dgroups_L0 d (x / 128) _ k (by omega) (by rw [Nat.pow_succ] at h; omega) (by omega) (by simp; omega)]
      simp
theorem dgroups_eq (n : Nat) (h : n < 2 ^ 64) : der_groups.f (n : Int) = some (grp n) := by
  unfold der_groups.f grp
  rw [and127 n h, wu8 (by omega) (by omega), dgroups_L0 10 n _ _ h (by omega) (by omega) (by simp)]
theorem grp_len (n : Nat) : (grp n).length ≤ 11 := by unfold grp; have := hi7_len 10 (n / 128); simp; omega

/-! ### whole numbers -/
/-- Is a number told by so many bytes? -/
def fits (n : Int) (s : Nat) : Prop := -(2 : Int) ^ (8 * s - 1) ≤ n ∧ n < (2 : Int) ^ (8 * s - 1)
instance (n : Int) (s : Nat) : Decidable (fits n s) := by unfold fits; infer_instance
/-- How many bytes tell it, from so many on (8 at most)? -/
def szF (n : Int) : Nat → Nat → Nat
  | 0, s => s
  | k + 1, s => if fits n s then s else szF n k (s + 1)
def szN (n : Int) : Nat := szF n 7 1
/-- The last so many bytes of a number. -/
def be : Nat → Nat → List Int
  | 0, _ => []
  | s + 1, m => be s (m / 256) ++ [((m % 256 : Nat) : Int)]
def m64 (n : Int) : Nat := (n % 18446744073709551616).toNat
def whl (n : Int) : List Int := be (szN n) (m64 n)
theorem be_len : ∀ s m, (be s m).length = s
  | 0, _ => rfl
  | s + 1, m => by simp [be, be_len s]
theorem shl1 (j : Nat) (h : j < 63) : ishl .i64 1 (j : Int) = (2 : Int) ^ j := by
  unfold ishl
  have hb : IntKind.i64.bits = 64 := rfl
  rw [hb, Int.toNat_natCast, Nat.min_eq_left (by omega), Int.one_mul]
  have : (2 : Int) ^ j ≤ 2 ^ 62 := by
    have := Nat.pow_le_pow_right (n := 2) (by omega) (show j ≤ 62 by omega)
    exact_mod_cast this
  have h0 : (0 : Int) < 2 ^ j := Int.pow_pos (by decide)
  exact w64 (by omega) (by omega)
theorem rwhole_L0 (n : Int) : ∀ (k s : Nat), s + k = 9 → 1 ≤ s → ref13_whole.L0 n k (s : Int) = if k = 0 then none else some ((szF n (k - 1) s : Nat) : Int)
  | 0, s, _, _ => by simp [ref13_whole.L0]
  | k + 1, s, hs, h1 => by
    unfold ref13_whole.L0
    simp only [Nat.add_sub_cancel, if_neg (Nat.succ_ne_zero k)]
    rcases Nat.lt_or_ge s 8 with h8 | h8
    · rw [if_pos (by simp; omega)]
      have e1 : IntKind.i64.wrap (8 * (s : Int)) = ((8 * s : Nat) : Int) := by rw [w64 (by omega) (by omega)]; omega
      have e2 : IntKind.i64.wrap (((8 * s : Nat) : Int) - 1) = ((8 * s - 1 : Nat) : Int) := by rw [w64 (by omega) (by omega)]; omega
      have e3 : IntKind.u64.wrap ((8 * s - 1 : Nat) : Int) = ((8 * s - 1 : Nat) : Int) := wu64 (by omega) (by omega)
      have hp : (2 : Int) ^ (8 * s - 1) ≤ 2 ^ 62 := by
        have := Nat.pow_le_pow_right (n := 2) (by omega) (show 8 * s - 1 ≤ 62 by omega)
        exact_mod_cast this
      have h0 : (0 : Int) < 2 ^ (8 * s - 1) := Int.pow_pos (by decide)
      have e4 : IntKind.i64.wrap (0 - (2 : Int) ^ (8 * s - 1)) = -(2 : Int) ^ (8 * s - 1) := by rw [w64 (by omega) (by omega)]; omega
      simp only [nmE, e1, e2, e3]
      rw [rq (by omega), shl1 _ (by omega), e4]
      have e5 : IntKind.i64.wrap ((s : Int) + 1) = ((s + 1 : Nat) : Int) := by rw [w64 (by omega) (by omega)]; omega
      obtain ⟨k, rfl⟩ : ∃ q, k = q + 1 := ⟨k - 1, by omega⟩
      have ih := rwhole_L0 n (k + 1) (s + 1) (by omega) (by omega)
      simp only [Nat.add_sub_cancel, if_neg (Nat.succ_ne_zero k)] at ih
      rw [szF, rq (by omega)]
      by_cases c1 : n < -(2 : Int) ^ (8 * s - 1)
      · simp only [c1, decide_true, if_true, Option.bind_some]
        rw [if_neg (fun h : fits n s => by have := h.1; omega), e5, ih]
      · simp only [c1, decide_false, Bool.false_eq_true, if_false, Option.bind_some]
        by_cases c2 : (2 : Int) ^ (8 * s - 1) ≤ n
        · simp only [c2, decide_true, if_true]
          rw [if_neg (fun h : fits n s => by have := h.2; omega), e5, ih]
        · simp only [c2, decide_false, Bool.false_eq_true, if_false]
          rw [if_pos (show fits n s from ⟨by omega, by omega⟩)]
    · have : s = 8 := by omega
      subst this
      have : k = 0 := by omega
      subst this
      simp [szF]
theorem rwhole_L1 (z : Nat) : ∀ (d i : Nat) (y : List Int) (m k : Nat), i + d = z → d < k → m < 2 ^ 64 → z ≤ 8 → y.length + d ≤ 1099511627776 → ref13_whole.L1 (z : Int) k y (m : Int) (i : Int) = some (be d m ++ y)
  | 0, i, y, m, k, h, hk, hm, hz, hl => by
    obtain ⟨k, rfl⟩ : ∃ q, k = q + 1 := ⟨k - 1, by omega⟩
    unfold ref13_whole.L1
    rw [if_neg (by simp; omega)]; simp [be]
  | d + 1, i, y, m, k, h, hk, hm, hz, hl => by
    obtain ⟨k, rfl⟩ : ∃ q, k = q + 1 := ⟨k - 1, by omega⟩
    unfold ref13_whole.L1
    have e1 : (Int.tmod (m : Int) 256) = ((m % 256 : Nat) : Int) := tm m 256
    have e2 : (Int.tdiv (m : Int) 256) = ((m / 256 : Nat) : Int) := td m 256
    rw [if_pos (by simp; omega), e1, e2, wu8 (by omega) (by omega), wu64 (by omega) (by omega), w64 (by omega) (by omega), rq (by simp; omega)]
    rw [show ((i : Int) + 1) = ((i + 1 : Nat) : Int) by omega, rwhole_L1 z d (i + 1) _ (m / 256) k (by omega) (by omega) (by omega) hz (by simp; omega)]
    simp [be]
theorem szF_le (n : Int) : ∀ k s, s ≤ szF n k s ∧ szF n k s ≤ s + k
  | 0, s => by simp [szF]
  | k + 1, s => by unfold szF; split; (· omega); (· have := szF_le n k (s + 1); omega)
theorem szN_le (n : Int) : 1 ≤ szN n ∧ szN n ≤ 8 := by have := szF_le n 7 1; unfold szN; omega
theorem rwhole_eq (n : Int) : ref13_whole.f n = some (whl n) := by
  unfold ref13_whole.f
  have h := rwhole_L0 n 8 1 (by omega) (by omega)
  simp only [if_neg (show ¬ (8 : Nat) = 0 by omega)] at h
  rw [show (((8 : Int) - (1 : Int)).toNat + 1) = 8 from rfl, show (1 : Int) = ((1 : Nat) : Int) from rfl, h]
  simp only [Option.bind_some]
  have hz := szN_le n
  have e : IntKind.u64.wrap n = ((m64 n : Nat) : Int) := by rw [IntKind.wrap_u64]; unfold m64; omega
  have hm : m64 n < 2 ^ 64 := by unfold m64; omega
  rw [show (8 - 1) = 7 from rfl, show szF n 7 1 = szN n from rfl, e, Int.toNat_natCast]
  rw [show (0 : Int) = ((0 : Nat) : Int) from rfl, rwhole_L1 (szN n) (szN n) 0 _ _ _ (by omega) (by omega) hm (by omega) (by simp; omega)]
  simp [whl]
end Go.Proofs.YtjhknfpociahoaaDoor
