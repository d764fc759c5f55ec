import Derived.Test.YtlpodhejgcmbpaaShTabA
namespace Go.Proofs.Ytlpodhejgcmbpaa
open Go Go.HW
theorem beg27 (k : Nat) : ref05_Begin.L0 (k + 4) (KL.take 27) (STL.take 8) 104 = ref05_Begin.L0 k (KL.take 28) (STL.take 8) 108 := by kernel_rfl
theorem beg28 (k : Nat) : ref05_Begin.L0 (k + 2) (KL.take 28) (STL.take 8) 108 = ref05_Begin.L0 k (KL.take 29) (STL.take 8) 110 := by kernel_rfl
theorem beg29 (k : Nat) : ref05_Begin.L0 (k + 4) (KL.take 29) (STL.take 8) 110 = ref05_Begin.L0 k (KL.take 30) (STL.take 8) 114 := by kernel_rfl
theorem beg30 (k : Nat) : ref05_Begin.L0 (k + 14) (KL.take 30) (STL.take 8) 114 = ref05_Begin.L0 k (KL.take 31) (STL.take 8) 128 := by kernel_rfl
theorem beg31 (k : Nat) : ref05_Begin.L0 (k + 4) (KL.take 31) (STL.take 8) 128 = ref05_Begin.L0 k (KL.take 32) (STL.take 8) 132 := by kernel_rfl
theorem beg32 (k : Nat) : ref05_Begin.L0 (k + 6) (KL.take 32) (STL.take 8) 132 = ref05_Begin.L0 k (KL.take 33) (STL.take 8) 138 := by kernel_rfl
theorem beg33 (k : Nat) : ref05_Begin.L0 (k + 2) (KL.take 33) (STL.take 8) 138 = ref05_Begin.L0 k (KL.take 34) (STL.take 8) 140 := by kernel_rfl
theorem beg34 (k : Nat) : ref05_Begin.L0 (k + 10) (KL.take 34) (STL.take 8) 140 = ref05_Begin.L0 k (KL.take 35) (STL.take 8) 150 := by kernel_rfl
theorem beg35 (k : Nat) : ref05_Begin.L0 (k + 2) (KL.take 35) (STL.take 8) 150 = ref05_Begin.L0 k (KL.take 36) (STL.take 8) 152 := by kernel_rfl
theorem beg36 (k : Nat) : ref05_Begin.L0 (k + 6) (KL.take 36) (STL.take 8) 152 = ref05_Begin.L0 k (KL.take 37) (STL.take 8) 158 := by kernel_rfl
theorem beg37 (k : Nat) : ref05_Begin.L0 (k + 6) (KL.take 37) (STL.take 8) 158 = ref05_Begin.L0 k (KL.take 38) (STL.take 8) 164 := by kernel_rfl
theorem beg38 (k : Nat) : ref05_Begin.L0 (k + 4) (KL.take 38) (STL.take 8) 164 = ref05_Begin.L0 k (KL.take 39) (STL.take 8) 168 := by kernel_rfl
theorem beg39 (k : Nat) : ref05_Begin.L0 (k + 6) (KL.take 39) (STL.take 8) 168 = ref05_Begin.L0 k (KL.take 40) (STL.take 8) 174 := by kernel_rfl
theorem beg40 (k : Nat) : ref05_Begin.L0 (k + 6) (KL.take 40) (STL.take 8) 174 = ref05_Begin.L0 k (KL.take 41) (STL.take 8) 180 := by kernel_rfl
theorem beg41 (k : Nat) : ref05_Begin.L0 (k + 2) (KL.take 41) (STL.take 8) 180 = ref05_Begin.L0 k (KL.take 42) (STL.take 8) 182 := by kernel_rfl
theorem beg42 (k : Nat) : ref05_Begin.L0 (k + 10) (KL.take 42) (STL.take 8) 182 = ref05_Begin.L0 k (KL.take 43) (STL.take 8) 192 := by kernel_rfl
theorem beg43 (k : Nat) : ref05_Begin.L0 (k + 2) (KL.take 43) (STL.take 8) 192 = ref05_Begin.L0 k (KL.take 44) (STL.take 8) 194 := by kernel_rfl
theorem beg44 (k : Nat) : ref05_Begin.L0 (k + 4) (KL.take 44) (STL.take 8) 194 = ref05_Begin.L0 k (KL.take 45) (STL.take 8) 198 := by kernel_rfl
theorem beg45 (k : Nat) : ref05_Begin.L0 (k + 2) (KL.take 45) (STL.take 8) 198 = ref05_Begin.L0 k (KL.take 46) (STL.take 8) 200 := by kernel_rfl
theorem beg46 (k : Nat) : ref05_Begin.L0 (k + 12) (KL.take 46) (STL.take 8) 200 = ref05_Begin.L0 k (KL.take 47) (STL.take 8) 212 := by kernel_rfl
theorem beg47 (k : Nat) : ref05_Begin.L0 (k + 12) (KL.take 47) (STL.take 8) 212 = ref05_Begin.L0 k (KL.take 48) (STL.take 8) 224 := by kernel_rfl
theorem beg48 (k : Nat) : ref05_Begin.L0 (k + 4) (KL.take 48) (STL.take 8) 224 = ref05_Begin.L0 k (KL.take 49) (STL.take 8) 228 := by kernel_rfl
theorem beg49 (k : Nat) : ref05_Begin.L0 (k + 2) (KL.take 49) (STL.take 8) 228 = ref05_Begin.L0 k (KL.take 50) (STL.take 8) 230 := by kernel_rfl
theorem beg50 (k : Nat) : ref05_Begin.L0 (k + 4) (KL.take 50) (STL.take 8) 230 = ref05_Begin.L0 k (KL.take 51) (STL.take 8) 234 := by kernel_rfl
theorem beg51 (k : Nat) : ref05_Begin.L0 (k + 6) (KL.take 51) (STL.take 8) 234 = ref05_Begin.L0 k (KL.take 52) (STL.take 8) 240 := by kernel_rfl
theorem beg52 (k : Nat) : ref05_Begin.L0 (k + 2) (KL.take 52) (STL.take 8) 240 = ref05_Begin.L0 k (KL.take 53) (STL.take 8) 242 := by kernel_rfl
theorem beg53 (k : Nat) : ref05_Begin.L0 (k + 10) (KL.take 53) (STL.take 8) 242 = ref05_Begin.L0 k (KL.take 54) (STL.take 8) 252 := by kernel_rfl
end Go.Proofs.Ytlpodhejgcmbpaa
