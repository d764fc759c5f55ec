import Derived.Test.YtlpodhejgcmbpaaHw6
import Derived.Laws.Externs
namespace Go.HW
open Go Go.RowKit
set_option linter.unusedVariables false
set_option linter.unusedSimpArgs false

/-! ### math/bits -/
def add64 (x y c : Int) : Int := ((x.toNat + y.toNat + c.toNat) % 18446744073709551616 : Nat)
def add64c (x y c : Int) : Int := ((x.toNat + y.toNat + c.toNat) / 18446744073709551616 : Nat)
def sub64 (x y c : Int) : Int := ((x.toNat + 18446744073709551616 - y.toNat - c.toNat) % 18446744073709551616 : Nat)
def sub64c (x y c : Int) : Int := (if x.toNat < y.toNat + c.toNat then 1 else 0 : Nat)
def mul64h (x y : Int) : Int := (x.toNat * y.toNat / 18446744073709551616 : Nat)
def mul64l (x y : Int) : Int := (x.toNat * y.toNat % 18446744073709551616 : Nat)

def addEntry : Array Value → Sem Value := fun args => do
  let (x, y, c) ← Extern.MathBitsCarry.three "Add64" args
  pure (Extern.MathBitsCarry.pair ((x + y + c) % Extern.MathBitsCarry.m64) ((x + y + c) / Extern.MathBitsCarry.m64))
def subEntry : Array Value → Sem Value := fun args => do
  let (x, y, b) ← Extern.MathBitsCarry.three "Sub64" args
  pure (Extern.MathBitsCarry.pair ((x + Extern.MathBitsCarry.m64 - y - b) % Extern.MathBitsCarry.m64) (if x < y + b then 1 else 0))

theorem run_three {P : Program} {name : String} {x y c : Int} {w : World} (hc : c ≤ 1) : (Extern.MathBitsCarry.three name #[.int .u64 x, .int .u64 y, .int .u64 c]).run P w = .ok (x.toNat, y.toNat, c.toNat) w := by
  unfold Extern.MathBitsCarry.three
  refine (run_of_bind (a := c) (w' := w) rfl).trans ?_
  have : ¬ c.toNat > 1 := by omega
  simp only [if_neg this]
  rfl

theorem run_addEntry {P : Program} {x y c : Int} {w : World} (hc : c ≤ 1) : (addEntry #[.int .u64 x, .int .u64 y, .int .u64 c]).run P w = .ok (.tuple #[.int .u64 (add64 x y c), .int .u64 (add64c x y c)]) w := by
  unfold addEntry
  refine (run_of_bind (run_three hc)).trans ?_
  rfl
theorem run_subEntry {P : Program} {x y c : Int} {w : World} (hc : c ≤ 1) : (subEntry #[.int .u64 x, .int .u64 y, .int .u64 c]).run P w = .ok (.tuple #[.int .u64 (sub64 x y c), .int .u64 (sub64c x y c)]) w := by
  unfold subEntry
  refine (run_of_bind (run_three hc)).trans ?_
  rfl

theorem f_mul64 {P : Program} {o : Oper} {S : Slots} {w0 : World} {I : Nat → Option Obj} {H : Heap} {cl : Call} {g : FuncId} {x y : Int} (hx0 : 0 ≤ x) (hx : x < 18446744073709551616) (hy0 : 0 ≤ y) (hy : y < 18446744073709551616)
    (hk : ∀ (x y : Nat), x < 18446744073709551616 → y < 18446744073709551616 → ∀ w, Calls P g #[.int .u64 x, .int .u64 y] w fun e w' => e = .returned (.tuple #[.int .u64 ((x * y / 18446744073709551616 : Nat) : Int), .int .u64 ((x * y % 18446744073709551616 : Nat) : Int)]) ∧ w' = w)
    (ho : o.op = .call cl) (hcal : cl.callee = .value (.func g)) (hargs : ∀ ρ, Val S ρ → cl.args.map ρ = #[.int .u64 x, .int .u64 y]) (hbody : ∀ w, (callFunc g #[.int .u64 x, .int .u64 y]).run P w = .ok (.enter g #[.int .u64 x, .int .u64 y]) w) :
    FQuiet P o w0 I S H (.tuple #[.int .u64 (mul64h x y), .int .u64 (mul64l x y)]) := by
  refine f_call ho hcal hargs hbody fun w => ?_
  obtain ⟨a, rfl⟩ := Int.eq_ofNat_of_zero_le hx0
  obtain ⟨b, rfl⟩ := Int.eq_ofNat_of_zero_le hy0
  exact (hk a b (by omega) (by omega) w).mono fun e w' ⟨he, hw⟩ => ⟨he, by rw [hw]; exact Below.refl _ _⟩
end Go.HW
