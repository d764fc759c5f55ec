import Derived.Test.YtjhknfpociahoaaDoorDe6
namespace Go.Proofs.YtjhknfpociahoaaDoor
open Go Go.HW Go.RowKit
set_option linter.unusedVariables false
set_option linter.unusedSimpArgs false

/-! ### small things -/
theorem rq {α : Type} {p : Prop} [Decidable p] {x : Option α} (h : p) : req p x = x := if_pos h
@[simp] theorem nmE {α β : Type} (x : α) (f : α → Option β) : nm x f = f x := rfl
@[simp] theorem onw_inl {A B Z : Type} (a : A) (f : A → Option Z) (g : B → Option Z) : onw (some (.inl a)) f g = f a := rfl
@[simp] theorem onw_inr {A B Z : Type} (b : B) (f : A → Option Z) (g : B → Option Z) : onw (some (.inr b)) f g = g b := rfl
theorem w64 {n : Int} (h0 : -9223372036854775808 ≤ n) (h1 : n ≤ 9223372036854775807) : IntKind.i64.wrap n = n := IntWalk.i64_in n ⟨h0, h1⟩
theorem wu64 {n : Int} (h0 : 0 ≤ n) (h1 : n ≤ 18446744073709551615) : IntKind.u64.wrap n = n := IntWalk.u64_in n ⟨h0, h1⟩
theorem wu8 {n : Int} (h0 : 0 ≤ n) (h1 : n ≤ 255) : IntKind.u8.wrap n = n := IntWalk.u8_in n ⟨h0, h1⟩
theorem td (a b : Nat) : Int.tdiv (a : Int) (b : Int) = ((a / b : Nat) : Int) := rfl
theorem and_mask (n k : Nat) (h : k ≤ 64) (hn : n < 2 ^ 64) : iand .u64 (n : Int) ((2 ^ k - 1 : Nat) : Int) = ((n % 2 ^ k : Nat) : Int) := by
  have hk : 2 ^ k ≤ 2 ^ 64 := Nat.pow_le_pow_right (by omega) h
  unfold iand
  have e : (BitVec.ofInt 64 (n : Int) &&& BitVec.ofInt 64 ((2 ^ k - 1 : Nat) : Int)).toNat = n % 2 ^ k := by
    rw [BitVec.toNat_and, BitVec.ofInt_natCast, BitVec.ofInt_natCast, BitVec.toNat_ofNat, BitVec.toNat_ofNat, Nat.mod_eq_of_lt hn, Nat.mod_eq_of_lt (by omega), Nat.and_two_pow_sub_one_eq_mod]
  rw [show IntKind.u64.bits = 64 from rfl, e, IntKind.wrap_u64]
  have : n % 2 ^ k < 2 ^ k := Nat.mod_lt _ (Nat.two_pow_pos k)
  omega
theorem and127 (n : Nat) (hn : n < 2 ^ 64) : iand .u64 (n : Int) 127 = ((n % 128 : Nat) : Int) := and_mask n 7 (by omega) hn
theorem shr7 (n : Nat) : ishr .u64 (n : Int) 7 = ((n / 128 : Nat) : Int) := by
  show Int.fdiv (n : Int) (2 ^ 7) = _
  rw [Int.fdiv_eq_ediv_of_nonneg _ (by decide)]; norm_cast
theorem or128_all : ∀ t : Fin 128, ior .u8 (t.val : Int) 128 = ((t.val + 128 : Nat) : Int) := by decide +kernel
theorem or128 (t : Nat) (h : t < 128) : ior .u8 (t : Int) 128 = ((t + 128 : Nat) : Int) := or128_all ⟨t, h⟩

/-! ### groups -/
/-- The groups of seven bits ahead of the last one. -/
def hi7 : Nat → Nat → List Int
  | 0, _ => []
  | k + 1, n => if n = 0 then [] else hi7 k (n / 128) ++ [((n % 128 + 128 : Nat) : Int)]
/-- A number in groups of seven bits. -/
def grp (n : Nat) : List Int := hi7 10 (n / 128) ++ [((n % 128 : Nat) : Int)]
theorem hi7_len : ∀ k n, (hi7 k n).length ≤ k
  | 0, _ => by simp [hi7]
  | k + 1, n => by unfold hi7; split <;> simp; exact hi7_len k _
theorem dgroups_L0 : ∀ (d : Nat) (x : Nat) (y : List Int) (k : Nat), x < 2 ^ 64 → x / 128 < 128 ^ d → d < k → y.length + d ≤ 1099511627776 → der_groups.L0 k y (x : Int) = some (hi7 d (x / 128) ++ y)
  | 0, x, y, k, hx, h, hk, _ => by
    have : x / 128 = 0 := by simpa using h
    obtain ⟨k, rfl⟩ : ∃ q, k = q + 1 := ⟨k - 1, by omega⟩
    unfold der_groups.L0
    rw [shr7, this]; simp [hi7]
  | d + 1, x, y, k, hx, h, hk, hl => by
    obtain ⟨k, rfl⟩ : ∃ q, k = q + 1 := ⟨k - 1, by omega⟩
    unfold der_groups.L0 hi7
    rw [shr7]
    rcases Nat.eq_zero_or_pos (x / 128) with h0 | h0
    · rw [h0]; simp
    · rw [if_pos (by simp; omega), if_neg (by omega), and127 _ (by omega), nmE, wu8 (by omega) (by omega), or128 _ (by omega), rq (by simp; omega)]
      rw [dgroups_L0 d (x / 128) _ k (by omega) (by rw [Nat.pow_succ] at h; omega) (by omega) (by simp; omega)]
      simp
theorem dgroups_eq (n : Nat) (h : n < 2 ^ 64) : der_groups.f (n : Int) = some (grp n) := by
  unfold der_groups.f grp
  rw [and127 n h, wu8 (by omega) (by omega), dgroups_L0 10 n _ _ h (by omega) (by omega) (by simp)]
theorem grp_len (n : Nat) : (grp n).length ≤ 11 := by unfold grp; have := hi7_len 10 (n / 128); simp; omega

/-! ### whole numbers -/
/-- Is a number told by so many bytes? -/
def fits (n : Int) (s : Nat) : Prop := -(2 : Int) ^ (8 * s - 1) ≤ n ∧ n < (2 : Int) ^ (8 * s - 1)
instance (n : Int) (s : Nat) : Decidable (fits n s) := by unfold fits; infer_instance
/-- How many bytes tell it, from so many on (8 at most)? -/
def szF (n : Int) : Nat → Nat → Nat
  | 0, s => s
  | k + 1, s => if fits n s then s else szF n k (s + 1)
def szN (n : Int) : Nat := szF n 7 1
/-- The last so many bytes of a number. -/
def be : Nat → Nat → List Int
  | 0, _ => []
  | s + 1, m => be s (m / 256) ++ [((m % 256 : Nat) : Int)]
def m64 (n : Int) : Nat := (n % 18446744073709551616).toNat
def whl (n : Int) : List Int := be (szN n) (m64 n)
theorem be_len : ∀ s m, (be s m).length = s
  | 0, _ => rfl
  | s + 1, m => by simp [be, be_len s]
theorem szF_le (n : Int) : ∀ k s, s ≤ szF n k s ∧ szF n k s ≤ s + k
  | 0, s => by simp [szF]
  | k + 1, s => by unfold szF; split; (· omega); (· have := szF_le n k (s + 1); omega)
theorem szN_le (n : Int) : 1 ≤ szN n ∧ szN n ≤ 8 := by have := szF_le n 7 1; unfold szN; omega
end Go.Proofs.YtjhknfpociahoaaDoor
