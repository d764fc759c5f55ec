import Derived.Test.YtjhknfpociahoaaDoorDe6
namespace Go.Proofs.YtjhknfpociahoaaDoor
open Go Go.HW Go.RowKit
set_option linter.unusedVariables false
set_option linter.unusedSimpArgs false

/-! ### small things -/
theorem rq {α : Type} {p : Prop} [Decidable p] {x : Option α} (h : p) : req p x = x := if_pos h
@[simp] theorem nmE {α β : Type} (x : α) (f : α → Option β) : nm x f = f x := rfl
@[simp] theorem onw_inl {A B Z : Type} (a : A) (f : A → Option Z) (g : B → Option Z) : onw (some (.inl a)) f g = f a := rfl
@[simp] theorem onw_inr {A B Z : Type} (b : B) (f : A → Option Z) (g : B → Option Z) : onw (some (.inr b)) f g = g b := rfl
theorem w64 {n : Int} (h0 : -9223372036854775808 ≤ n) (h1 : n ≤ 9223372036854775807) : IntKind.i64.wrap n = n := IntWalk.i64_in n ⟨h0, h1⟩
theorem td (a b : Nat) : Int.tdiv (a : Int) (b : Int) = ((a / b : Nat) : Int) := rfl
/-! ### groups -/
/-- The groups of seven bits ahead of the last one. -/
def hi7 : Nat → Nat → List Int
  | 0, _ => []
  | k + 1, n => if n = 0 then [] else hi7 k (n / 128) ++ [((n % 128 + 128 : Nat) : Int)]
/-- A number in groups of seven bits. -/
def grp (n : Nat) : List Int := hi7 10 (n / 128) ++ [((n % 128 : Nat) : Int)]
theorem hi7_len : ∀ k n, (hi7 k n).length ≤ k
  | 0, _ => by simp [hi7]
  | k + 1, n => by unfold hi7; split <;> simp; exact hi7_len k _
theorem grp_len (n : Nat) : (grp n).length ≤ 11 := by unfold grp; have := hi7_len 10 (n / 128); simp; omega

/-! ### whole numbers -/
/-- Is a number told by so many bytes? -/
def fits (n : Int) (s : Nat) : Prop := -(2 : Int) ^ (8 * s - 1) ≤ n ∧ n < (2 : Int) ^ (8 * s - 1)
instance (n : Int) (s : Nat) : Decidable (fits n s) := by unfold fits; infer_instance
/-- How many bytes tell it, from so many on (8 at most)? -/
def szF (n : Int) : Nat → Nat → Nat
  | 0, s => s
  | k + 1, s => if fits n s then s else szF n k (s + 1)
def szN (n : Int) : Nat := szF n 7 1
/-- The last so many bytes of a number. -/
def be : Nat → Nat → List Int
  | 0, _ => []
  | s + 1, m => be s (m / 256) ++ [((m % 256 : Nat) : Int)]
def m64 (n : Int) : Nat := (n % 18446744073709551616).toNat
def whl (n : Int) : List Int := be (szN n) (m64 n)
theorem be_len : ∀ s m, (be s m).length = s
  | 0, _ => rfl
  | s + 1, m => by simp [be, be_len s]
theorem szF_le (n : Int) : ∀ k s, s ≤ szF n k s ∧ szF n k s ≤ s + k
  | 0, s => by simp [szF]
  | k + 1, s => by unfold szF; split; (· omega); (· have := szF_le n k (s + 1); omega)
theorem szN_le (n : Int) : 1 ≤ szN n ∧ szN n ≤ 8 := by have := szF_le n 7 1; unfold szN; omega
end Go.Proofs.YtjhknfpociahoaaDoor
