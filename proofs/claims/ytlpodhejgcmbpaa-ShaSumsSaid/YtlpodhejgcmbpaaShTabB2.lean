import Derived.Test.YtlpodhejgcmbpaaShTabA
namespace Go.Proofs.Ytlpodhejgcmbpaa
open Go Go.HW
theorem beg54 (k : Nat) : ref05_Begin.L0 (k + 6) (KL.take 54) (STL.take 8) 252 = ref05_Begin.L0 k (KL.take 55) (STL.take 8) 258 := by kernel_rfl
theorem beg55 (k : Nat) : ref05_Begin.L0 (k + 6) (KL.take 55) (STL.take 8) 258 = ref05_Begin.L0 k (KL.take 56) (STL.take 8) 264 := by kernel_rfl
theorem beg56 (k : Nat) : ref05_Begin.L0 (k + 6) (KL.take 56) (STL.take 8) 264 = ref05_Begin.L0 k (KL.take 57) (STL.take 8) 270 := by kernel_rfl
theorem beg57 (k : Nat) : ref05_Begin.L0 (k + 2) (KL.take 57) (STL.take 8) 270 = ref05_Begin.L0 k (KL.take 58) (STL.take 8) 272 := by kernel_rfl
theorem beg58 (k : Nat) : ref05_Begin.L0 (k + 6) (KL.take 58) (STL.take 8) 272 = ref05_Begin.L0 k (KL.take 59) (STL.take 8) 278 := by kernel_rfl
theorem beg59 (k : Nat) : ref05_Begin.L0 (k + 4) (KL.take 59) (STL.take 8) 278 = ref05_Begin.L0 k (KL.take 60) (STL.take 8) 282 := by kernel_rfl
theorem beg60 (k : Nat) : ref05_Begin.L0 (k + 2) (KL.take 60) (STL.take 8) 282 = ref05_Begin.L0 k (KL.take 61) (STL.take 8) 284 := by kernel_rfl
theorem beg61 (k : Nat) : ref05_Begin.L0 (k + 10) (KL.take 61) (STL.take 8) 284 = ref05_Begin.L0 k (KL.take 62) (STL.take 8) 294 := by kernel_rfl
theorem beg62 (k : Nat) : ref05_Begin.L0 (k + 14) (KL.take 62) (STL.take 8) 294 = ref05_Begin.L0 k (KL.take 63) (STL.take 8) 308 := by kernel_rfl
theorem beg63 (k : Nat) : ref05_Begin.L0 (k + 4) (KL.take 63) (STL.take 8) 308 = ref05_Begin.L0 k (KL.take 64) (STL.take 8) 312 := by kernel_rfl
theorem beg64 (k : Nat) : ref05_Begin.L0 (k + 2) (KL.take 64) (STL.take 8) 312 = ref05_Begin.L0 k (KL.take 65) (STL.take 8) 314 := by kernel_rfl
theorem beg65 (k : Nat) : ref05_Begin.L0 (k + 4) (KL.take 65) (STL.take 8) 314 = ref05_Begin.L0 k (KL.take 66) (STL.take 8) 318 := by kernel_rfl
theorem beg66 (k : Nat) : ref05_Begin.L0 (k + 14) (KL.take 66) (STL.take 8) 318 = ref05_Begin.L0 k (KL.take 67) (STL.take 8) 332 := by kernel_rfl
theorem beg67 (k : Nat) : ref05_Begin.L0 (k + 6) (KL.take 67) (STL.take 8) 332 = ref05_Begin.L0 k (KL.take 68) (STL.take 8) 338 := by kernel_rfl
theorem beg68 (k : Nat) : ref05_Begin.L0 (k + 10) (KL.take 68) (STL.take 8) 338 = ref05_Begin.L0 k (KL.take 69) (STL.take 8) 348 := by kernel_rfl
theorem beg69 (k : Nat) : ref05_Begin.L0 (k + 2) (KL.take 69) (STL.take 8) 348 = ref05_Begin.L0 k (KL.take 70) (STL.take 8) 350 := by kernel_rfl
theorem beg70 (k : Nat) : ref05_Begin.L0 (k + 4) (KL.take 70) (STL.take 8) 350 = ref05_Begin.L0 k (KL.take 71) (STL.take 8) 354 := by kernel_rfl
theorem beg71 (k : Nat) : ref05_Begin.L0 (k + 6) (KL.take 71) (STL.take 8) 354 = ref05_Begin.L0 k (KL.take 72) (STL.take 8) 360 := by kernel_rfl
theorem beg72 (k : Nat) : ref05_Begin.L0 (k + 8) (KL.take 72) (STL.take 8) 360 = ref05_Begin.L0 k (KL.take 73) (STL.take 8) 368 := by kernel_rfl
theorem beg73 (k : Nat) : ref05_Begin.L0 (k + 6) (KL.take 73) (STL.take 8) 368 = ref05_Begin.L0 k (KL.take 74) (STL.take 8) 374 := by kernel_rfl
theorem beg74 (k : Nat) : ref05_Begin.L0 (k + 6) (KL.take 74) (STL.take 8) 374 = ref05_Begin.L0 k (KL.take 75) (STL.take 8) 380 := by kernel_rfl
theorem beg75 (k : Nat) : ref05_Begin.L0 (k + 4) (KL.take 75) (STL.take 8) 380 = ref05_Begin.L0 k (KL.take 76) (STL.take 8) 384 := by kernel_rfl
theorem beg76 (k : Nat) : ref05_Begin.L0 (k + 6) (KL.take 76) (STL.take 8) 384 = ref05_Begin.L0 k (KL.take 77) (STL.take 8) 390 := by kernel_rfl
theorem beg77 (k : Nat) : ref05_Begin.L0 (k + 8) (KL.take 77) (STL.take 8) 390 = ref05_Begin.L0 k (KL.take 78) (STL.take 8) 398 := by kernel_rfl
theorem beg78 (k : Nat) : ref05_Begin.L0 (k + 4) (KL.take 78) (STL.take 8) 398 = ref05_Begin.L0 k (KL.take 79) (STL.take 8) 402 := by kernel_rfl
theorem beg79 (k : Nat) : ref05_Begin.L0 (k + 8) (KL.take 79) (STL.take 8) 402 = ref05_Begin.L0 k (KL.take 80) (STL.take 8) 410 := by kernel_rfl
end Go.Proofs.Ytlpodhejgcmbpaa
