import Derived.Test.YtlpodhejgcmbpaaShTabA
namespace Go.Proofs.Ytlpodhejgcmbpaa
open Go Go.HW
theorem beg0 (k : Nat) : ref05_Begin.L0 (k + 1) (KL.take 0) (STL.take 0) 2 = ref05_Begin.L0 k (KL.take 1) (STL.take 1) 3 := by kernel_rfl
theorem beg1 (k : Nat) : ref05_Begin.L0 (k + 1) (KL.take 1) (STL.take 1) 3 = ref05_Begin.L0 k (KL.take 2) (STL.take 2) 4 := by kernel_rfl
theorem beg2 (k : Nat) : ref05_Begin.L0 (k + 2) (KL.take 2) (STL.take 2) 4 = ref05_Begin.L0 k (KL.take 3) (STL.take 3) 6 := by kernel_rfl
theorem beg3 (k : Nat) : ref05_Begin.L0 (k + 2) (KL.take 3) (STL.take 3) 6 = ref05_Begin.L0 k (KL.take 4) (STL.take 4) 8 := by kernel_rfl
theorem beg4 (k : Nat) : ref05_Begin.L0 (k + 4) (KL.take 4) (STL.take 4) 8 = ref05_Begin.L0 k (KL.take 5) (STL.take 5) 12 := by kernel_rfl
theorem beg5 (k : Nat) : ref05_Begin.L0 (k + 2) (KL.take 5) (STL.take 5) 12 = ref05_Begin.L0 k (KL.take 6) (STL.take 6) 14 := by kernel_rfl
theorem beg6 (k : Nat) : ref05_Begin.L0 (k + 4) (KL.take 6) (STL.take 6) 14 = ref05_Begin.L0 k (KL.take 7) (STL.take 7) 18 := by kernel_rfl
theorem beg7 (k : Nat) : ref05_Begin.L0 (k + 2) (KL.take 7) (STL.take 7) 18 = ref05_Begin.L0 k (KL.take 8) (STL.take 8) 20 := by kernel_rfl
theorem beg8 (k : Nat) : ref05_Begin.L0 (k + 4) (KL.take 8) (STL.take 8) 20 = ref05_Begin.L0 k (KL.take 9) (STL.take 8) 24 := by kernel_rfl
theorem beg9 (k : Nat) : ref05_Begin.L0 (k + 6) (KL.take 9) (STL.take 8) 24 = ref05_Begin.L0 k (KL.take 10) (STL.take 8) 30 := by kernel_rfl
theorem beg10 (k : Nat) : ref05_Begin.L0 (k + 2) (KL.take 10) (STL.take 8) 30 = ref05_Begin.L0 k (KL.take 11) (STL.take 8) 32 := by kernel_rfl
theorem beg11 (k : Nat) : ref05_Begin.L0 (k + 6) (KL.take 11) (STL.take 8) 32 = ref05_Begin.L0 k (KL.take 12) (STL.take 8) 38 := by kernel_rfl
theorem beg12 (k : Nat) : ref05_Begin.L0 (k + 4) (KL.take 12) (STL.take 8) 38 = ref05_Begin.L0 k (KL.take 13) (STL.take 8) 42 := by kernel_rfl
theorem beg13 (k : Nat) : ref05_Begin.L0 (k + 2) (KL.take 13) (STL.take 8) 42 = ref05_Begin.L0 k (KL.take 14) (STL.take 8) 44 := by kernel_rfl
theorem beg14 (k : Nat) : ref05_Begin.L0 (k + 4) (KL.take 14) (STL.take 8) 44 = ref05_Begin.L0 k (KL.take 15) (STL.take 8) 48 := by kernel_rfl
theorem beg15 (k : Nat) : ref05_Begin.L0 (k + 6) (KL.take 15) (STL.take 8) 48 = ref05_Begin.L0 k (KL.take 16) (STL.take 8) 54 := by kernel_rfl
theorem beg16 (k : Nat) : ref05_Begin.L0 (k + 6) (KL.take 16) (STL.take 8) 54 = ref05_Begin.L0 k (KL.take 17) (STL.take 8) 60 := by kernel_rfl
theorem beg17 (k : Nat) : ref05_Begin.L0 (k + 2) (KL.take 17) (STL.take 8) 60 = ref05_Begin.L0 k (KL.take 18) (STL.take 8) 62 := by kernel_rfl
theorem beg18 (k : Nat) : ref05_Begin.L0 (k + 6) (KL.take 18) (STL.take 8) 62 = ref05_Begin.L0 k (KL.take 19) (STL.take 8) 68 := by kernel_rfl
theorem beg19 (k : Nat) : ref05_Begin.L0 (k + 4) (KL.take 19) (STL.take 8) 68 = ref05_Begin.L0 k (KL.take 20) (STL.take 8) 72 := by kernel_rfl
theorem beg20 (k : Nat) : ref05_Begin.L0 (k + 2) (KL.take 20) (STL.take 8) 72 = ref05_Begin.L0 k (KL.take 21) (STL.take 8) 74 := by kernel_rfl
theorem beg21 (k : Nat) : ref05_Begin.L0 (k + 6) (KL.take 21) (STL.take 8) 74 = ref05_Begin.L0 k (KL.take 22) (STL.take 8) 80 := by kernel_rfl
theorem beg22 (k : Nat) : ref05_Begin.L0 (k + 4) (KL.take 22) (STL.take 8) 80 = ref05_Begin.L0 k (KL.take 23) (STL.take 8) 84 := by kernel_rfl
theorem beg23 (k : Nat) : ref05_Begin.L0 (k + 6) (KL.take 23) (STL.take 8) 84 = ref05_Begin.L0 k (KL.take 24) (STL.take 8) 90 := by kernel_rfl
theorem beg24 (k : Nat) : ref05_Begin.L0 (k + 8) (KL.take 24) (STL.take 8) 90 = ref05_Begin.L0 k (KL.take 25) (STL.take 8) 98 := by kernel_rfl
theorem beg25 (k : Nat) : ref05_Begin.L0 (k + 4) (KL.take 25) (STL.take 8) 98 = ref05_Begin.L0 k (KL.take 26) (STL.take 8) 102 := by kernel_rfl
theorem beg26 (k : Nat) : ref05_Begin.L0 (k + 2) (KL.take 26) (STL.take 8) 102 = ref05_Begin.L0 k (KL.take 27) (STL.take 8) 104 := by kernel_rfl
end Go.Proofs.Ytlpodhejgcmbpaa
