import Derived.Test.YtillmeddkdcenaaScRef
namespace Go.Proofs.Ytillmeddkdcenaa
open Go Go.HW Go.RowKit
set_option linter.unusedVariables false
set_option linter.unusedSimpArgs false

/-! ### 64 bytes -/
set_option maxRecDepth 100000 in
theorem words64_run (x0 x1 x2 x3 x4 x5 x6 x7 x8 x9 x10 x11 x12 x13 x14 x15 x16 x17 x18 x19 x20 x21 x22 x23 x24 x25 x26 x27 x28 x29 x30 x31 x32 x33 x34 x35 x36 x37 x38 x39 x40 x41 x42 x43 x44 x45 x46 x47 x48 x49 x50 x51 x52 x53 x54 x55 x56 x57 x58 x59 x60 x61 x62 x63 : Int) : scalar_Reduce.L0 (x0 :: x1 :: x2 :: x3 :: x4 :: x5 :: x6 :: x7 :: x8 :: x9 :: x10 :: x11 :: x12 :: x13 :: x14 :: x15 :: x16 :: x17 :: x18 :: x19 :: x20 :: x21 :: x22 :: x23 :: x24 :: x25 :: x26 :: x27 :: x28 :: x29 :: x30 :: x31 :: x32 :: x33 :: x34 :: x35 :: x36 :: x37 :: x38 :: x39 :: x40 :: x41 :: x42 :: x43 :: x44 :: x45 :: x46 :: x47 :: x48 :: x49 :: x50 :: x51 :: x52 :: x53 :: x54 :: x55 :: x56 :: x57 :: x58 :: x59 :: x60 :: x61 :: x62 :: x63 :: []) 65 0 (List.replicate 8 0) = some [wd x0 x1 x2 x3 x4 x5 x6 x7, wd x8 x9 x10 x11 x12 x13 x14 x15, wd x16 x17 x18 x19 x20 x21 x22 x23, wd x24 x25 x26 x27 x28 x29 x30 x31, wd x32 x33 x34 x35 x36 x37 x38 x39, wd x40 x41 x42 x43 x44 x45 x46 x47, wd x48 x49 x50 x51 x52 x53 x54 x55, wd x56 x57 x58 x59 x60 x61 x62 x63] := by kernel_rfl
theorem wd_word {x0 x1 x2 x3 x4 x5 x6 x7 : Int} (hx : ∀ x ∈ [x0, x1, x2, x3, x4, x5, x6, x7], U8 x) : wd x0 x1 x2 x3 x4 x5 x6 x7 = val 256 [x0, x1, x2, x3, x4, x5, x6, x7] ∧ U64 (wd x0 x1 x2 x3 x4 x5 x6 x7) := by
  have e := wd_eq (hx x0 (by simp)) (hx x1 (by simp)) (hx x2 (by simp)) (hx x3 (by simp)) (hx x4 (by simp)) (hx x5 (by simp)) (hx x6 (by simp)) (hx x7 (by simp))
  refine ⟨e, ?_⟩
  rw [e]
  have h0 := val_nonneg (B := 256) (by omega) [x0, x1, x2, x3, x4, x5, x6, x7] hx
  have h1 := val_lt (B := 256) (by omega) [x0, x1, x2, x3, x4, x5, x6, x7] hx
  exact ⟨h0, by simpa using h1⟩
theorem list64 {xs : List Int} (h : xs.length = 64) : ∃ x0 x1 x2 x3 x4 x5 x6 x7 x8 x9 x10 x11 x12 x13 x14 x15 x16 x17 x18 x19 x20 x21 x22 x23 x24 x25 x26 x27 x28 x29 x30 x31 x32 x33 x34 x35 x36 x37 x38 x39 x40 x41 x42 x43 x44 x45 x46 x47 x48 x49 x50 x51 x52 x53 x54 x55 x56 x57 x58 x59 x60 x61 x62 x63, xs = (x0 :: x1 :: x2 :: x3 :: x4 :: x5 :: x6 :: x7 :: x8 :: x9 :: x10 :: x11 :: x12 :: x13 :: x14 :: x15 :: x16 :: x17 :: x18 :: x19 :: x20 :: x21 :: x22 :: x23 :: x24 :: x25 :: x26 :: x27 :: x28 :: x29 :: x30 :: x31 :: x32 :: x33 :: x34 :: x35 :: x36 :: x37 :: x38 :: x39 :: x40 :: x41 :: x42 :: x43 :: x44 :: x45 :: x46 :: x47 :: x48 :: x49 :: x50 :: x51 :: x52 :: x53 :: x54 :: x55 :: x56 :: x57 :: x58 :: x59 :: x60 :: x61 :: x62 :: x63 :: []) := by
  have h1 : (xs.take 32).length = 32 := by rw [List.length_take]; omega
  have h2 : (xs.drop 32).length = 32 := by rw [List.length_drop]; omega
  obtain ⟨x0, x1, x2, x3, x4, x5, x6, x7, x8, x9, x10, x11, x12, x13, x14, x15, x16, x17, x18, x19, x20, x21, x22, x23, x24, x25, x26, x27, x28, x29, x30, x31, e1⟩ := list32 h1
  obtain ⟨x32, x33, x34, x35, x36, x37, x38, x39, x40, x41, x42, x43, x44, x45, x46, x47, x48, x49, x50, x51, x52, x53, x54, x55, x56, x57, x58, x59, x60, x61, x62, x63, e2⟩ := list32 h2
  refine ⟨x0, x1, x2, x3, x4, x5, x6, x7, x8, x9, x10, x11, x12, x13, x14, x15, x16, x17, x18, x19, x20, x21, x22, x23, x24, x25, x26, x27, x28, x29, x30, x31, x32, x33, x34, x35, x36, x37, x38, x39, x40, x41, x42, x43, x44, x45, x46, x47, x48, x49, x50, x51, x52, x53, x54, x55, x56, x57, x58, x59, x60, x61, x62, x63, ?_⟩
  rw [← List.take_append_drop 32 xs, e1, e2]
  rfl
theorem val8 (x0 x1 x2 x3 x4 x5 x6 x7 : Int) (r : List Int) : val 256 (x0 :: x1 :: x2 :: x3 :: x4 :: x5 :: x6 :: x7 :: r) = val 256 [x0, x1, x2, x3, x4, x5, x6, x7] + W64 * val 256 r := by
  simp only [val, W64]; omega
theorem Reduce_red {a : List Int} (hl : a.length = 64) (hb : ∀ x ∈ a, U8 x) : scalar_Reduce.f a = some (red (val 256 a)) := by
  obtain ⟨x0, x1, x2, x3, x4, x5, x6, x7, x8, x9, x10, x11, x12, x13, x14, x15, x16, x17, x18, x19, x20, x21, x22, x23, x24, x25, x26, x27, x28, x29, x30, x31, x32, x33, x34, x35, x36, x37, x38, x39, x40, x41, x42, x43, x44, x45, x46, x47, x48, x49, x50, x51, x52, x53, x54, x55, x56, x57, x58, x59, x60, x61, x62, x63, rfl⟩ := list64 hl
  obtain ⟨p0, q0⟩ := wd_word (x0 := x0) (x1 := x1) (x2 := x2) (x3 := x3) (x4 := x4) (x5 := x5) (x6 := x6) (x7 := x7) fun x hx => hb x (by simp only [List.mem_cons, List.not_mem_nil, or_false] at hx ⊢; rcases hx with h | h | h | h | h | h | h | h <;> simp [h])
  obtain ⟨p1, q1⟩ := wd_word (x0 := x8) (x1 := x9) (x2 := x10) (x3 := x11) (x4 := x12) (x5 := x13) (x6 := x14) (x7 := x15) fun x hx => hb x (by simp only [List.mem_cons, List.not_mem_nil, or_false] at hx ⊢; rcases hx with h | h | h | h | h | h | h | h <;> simp [h])
  obtain ⟨p2, q2⟩ := wd_word (x0 := x16) (x1 := x17) (x2 := x18) (x3 := x19) (x4 := x20) (x5 := x21) (x6 := x22) (x7 := x23) fun x hx => hb x (by simp only [List.mem_cons, List.not_mem_nil, or_false] at hx ⊢; rcases hx with h | h | h | h | h | h | h | h <;> simp [h])
  obtain ⟨p3, q3⟩ := wd_word (x0 := x24) (x1 := x25) (x2 := x26) (x3 := x27) (x4 := x28) (x5 := x29) (x6 := x30) (x7 := x31) fun x hx => hb x (by simp only [List.mem_cons, List.not_mem_nil, or_false] at hx ⊢; rcases hx with h | h | h | h | h | h | h | h <;> simp [h])
  obtain ⟨p4, q4⟩ := wd_word (x0 := x32) (x1 := x33) (x2 := x34) (x3 := x35) (x4 := x36) (x5 := x37) (x6 := x38) (x7 := x39) fun x hx => hb x (by simp only [List.mem_cons, List.not_mem_nil, or_false] at hx ⊢; rcases hx with h | h | h | h | h | h | h | h <;> simp [h])
  obtain ⟨p5, q5⟩ := wd_word (x0 := x40) (x1 := x41) (x2 := x42) (x3 := x43) (x4 := x44) (x5 := x45) (x6 := x46) (x7 := x47) fun x hx => hb x (by simp only [List.mem_cons, List.not_mem_nil, or_false] at hx ⊢; rcases hx with h | h | h | h | h | h | h | h <;> simp [h])
  obtain ⟨p6, q6⟩ := wd_word (x0 := x48) (x1 := x49) (x2 := x50) (x3 := x51) (x4 := x52) (x5 := x53) (x6 := x54) (x7 := x55) fun x hx => hb x (by simp only [List.mem_cons, List.not_mem_nil, or_false] at hx ⊢; rcases hx with h | h | h | h | h | h | h | h <;> simp [h])
  obtain ⟨p7, q7⟩ := wd_word (x0 := x56) (x1 := x57) (x2 := x58) (x3 := x59) (x4 := x60) (x5 := x61) (x6 := x62) (x7 := x63) fun x hx => hb x (by simp only [List.mem_cons, List.not_mem_nil, or_false] at hx ⊢; rcases hx with h | h | h | h | h | h | h | h <;> simp [h])
  obtain ⟨s0, s1, s2, s3, hs, us0, us1, us2, us3, hsv⟩ := reduce_eq (xs := [wd x0 x1 x2 x3 x4 x5 x6 x7, wd x8 x9 x10 x11 x12 x13 x14 x15, wd x16 x17 x18 x19 x20 x21 x22 x23, wd x24 x25 x26 x27 x28 x29 x30 x31, wd x32 x33 x34 x35 x36 x37 x38 x39, wd x40 x41 x42 x43 x44 x45 x46 x47, wd x48 x49 x50 x51 x52 x53 x54 x55, wd x56 x57 x58 x59 x60 x61 x62 x63]) rfl (by simp only [List.mem_cons, List.not_mem_nil, or_false, forall_eq_or_imp, forall_eq]; exact ⟨q0, q1, q2, q3, q4, q5, q6, q7⟩)
  unfold scalar_Reduce.f
  rw [words64_run, Option.bind_some, hs, Option.bind_some, key_eq us0 us1 us2 us3, Option.bind_some, hsv]
  have e : val 18446744073709551616 [wd x0 x1 x2 x3 x4 x5 x6 x7, wd x8 x9 x10 x11 x12 x13 x14 x15, wd x16 x17 x18 x19 x20 x21 x22 x23, wd x24 x25 x26 x27 x28 x29 x30 x31, wd x32 x33 x34 x35 x36 x37 x38 x39, wd x40 x41 x42 x43 x44 x45 x46 x47, wd x48 x49 x50 x51 x52 x53 x54 x55, wd x56 x57 x58 x59 x60 x61 x62 x63] = val 256 (x0 :: x1 :: x2 :: x3 :: x4 :: x5 :: x6 :: x7 :: x8 :: x9 :: x10 :: x11 :: x12 :: x13 :: x14 :: x15 :: x16 :: x17 :: x18 :: x19 :: x20 :: x21 :: x22 :: x23 :: x24 :: x25 :: x26 :: x27 :: x28 :: x29 :: x30 :: x31 :: x32 :: x33 :: x34 :: x35 :: x36 :: x37 :: x38 :: x39 :: x40 :: x41 :: x42 :: x43 :: x44 :: x45 :: x46 :: x47 :: x48 :: x49 :: x50 :: x51 :: x52 :: x53 :: x54 :: x55 :: x56 :: x57 :: x58 :: x59 :: x60 :: x61 :: x62 :: x63 :: []) := by
    rw [val8 x0 x1 x2 x3 x4 x5 x6 x7, val8 x8 x9 x10 x11 x12 x13 x14 x15, val8 x16 x17 x18 x19 x20 x21 x22 x23, val8 x24 x25 x26 x27 x28 x29 x30 x31, val8 x32 x33 x34 x35 x36 x37 x38 x39, val8 x40 x41 x42 x43 x44 x45 x46 x47, val8 x48 x49 x50 x51 x52 x53 x54 x55, ← p0, ← p1, ← p2, ← p3, ← p4, ← p5, ← p6, ← p7]
    simp only [val, W64]
    omega
  rw [e]; rfl

/-! ### the document's product -/
theorem cell_lt {y : List Int} {C : Int} (h : ∀ v ∈ y, 0 ≤ v ∧ v < C) (hC : 0 < C) (m : Nat) : 0 ≤ y.getD m 0 ∧ y.getD m 0 < C := by
  rcases Nat.lt_or_ge m y.length with hm | hm
  · exact h _ (by simp [List.getD_eq_getElem?_getD, hm])
  · rw [List.getD_eq_getElem?_getD, List.getElem?_eq_none hm]; simpa using hC
theorem prod_u16 {x y : Int} (hx : U16 x) (hy : U16 y) : 0 ≤ x * y ∧ x * y ≤ 4294836225 := by
  refine ⟨Int.mul_nonneg hx.1 hy.1, ?_⟩
  have h1 : x ≤ 65535 := by have := hx.2; omega
  have h2 : y ≤ 65535 := by have := hy.2; omega
  have := Int.mul_le_mul h1 h2 hy.1 (by omega)
  omega
theorem line_loop {xs ys : List Int} (i : Nat) (hi : i < 16) (hx : Num xs) (hy : Num ys) (C : Int) (hC : 0 < C ∧ C ≤ 1099511627776) : ∀ (k j : Nat), k + j = 17 → j ≤ 16 → ∀ (y : List Int), y.length = 33 → (∀ v ∈ y, 0 ≤ v ∧ v < C + 4294967296) → (∀ m, i + j ≤ m → y.getD m 0 < C) →
    ∃ y', ref03_MulAdd.L1 xs ys i k j y = some y' ∧ y'.length = 33 ∧ (∀ v ∈ y', 0 ≤ v ∧ v < C + 4294967296) ∧ val 65536 y' = val 65536 y + xs.getD i 0 * val 65536 (ys.drop j) * 65536 ^ (i + j)
  | 0, j, hk, hj, _, _, _, _ => by omega
  | k + 1, j, hk, hj, y, hl, hv, hm => by
    by_cases h16 : j = 16
    · subst h16
      refine ⟨y, ?_, hl, hv, ?_⟩
      · unfold ref03_MulAdd.L1; simp
      · rw [show ys.drop 16 = [] from List.drop_of_length_le (by rw [hy.1]; omega)]; simp [val]
    · have hj16 : j < 16 := by omega
      have e1 : IntKind.i64.wrap ((i : Int) + (j : Int)) = ((i + j : Nat) : Int) := by rw [wrap_small (by omega) (by omega)]; omega
      have e2 : IntKind.i64.wrap ((j : Int) + 1) = ((j + 1 : Nat) : Int) := by rw [wrap_small (by omega) (by omega)]; omega
      obtain ⟨p0, p1⟩ := prod_u16 (get_u16 hx.2 i) (get_u16 hy.2 j)
      have c1 := (cell_lt hv (by omega) (i + j)).1
      have c2 := hm (i + j) (by omega)
      have w1 : IntKind.u64.wrap (xs.getD i 0 * ys.getD j 0) = xs.getD i 0 * ys.getD j 0 := by rw [IntKind.wrap_u64]; omega
      have w2 : IntKind.u64.wrap (y.getD (i + j) 0 + xs.getD i 0 * ys.getD j 0) = y.getD (i + j) 0 + xs.getD i 0 * ys.getD j 0 := by rw [IntKind.wrap_u64]; omega
      obtain ⟨y2, hr, g1, g2, g3⟩ := line_loop i hi hx hy C hC k (j + 1) (by omega) (by omega) (y.set (i + j) (y.getD (i + j) 0 + xs.getD i 0 * ys.getD j 0)) (by simpa using hl) (fun v hvm => by
        rcases List.mem_or_eq_of_mem_set hvm with h1 | h1
        · exact hv v h1
        · rw [h1]; omega) (fun m hmm => by
        rw [List.getD_eq_getElem?_getD, List.getElem?_set_ne (by omega), ← List.getD_eq_getElem?_getD]
        exact hm m (by omega))
      refine ⟨y2, ?_, g1, g2, ?_⟩
      · unfold ref03_MulAdd.L1
        rw [if_pos (by simp; omega)]
        simp only [nm, e1, e2, Int.toNat_natCast, w1, w2]
        rw [req, if_pos (by omega), req, if_pos (by omega), req, if_pos (by omega), req, if_pos (by omega), req, if_pos (by omega), req, if_pos (by omega)]
        exact hr
      · rw [g3, val_set 65536 y (i + j) _ (by omega), val_drop 65536 (show j < ys.length by rw [hy.1]; omega), show i + (j + 1) = (i + j) + 1 by omega, Int.pow_succ]
        generalize (65536 : Int) ^ (i + j) = E at *
        grind
theorem all_loop {xs ys zs : List Int} (hx : Num xs) (hy : Num ys) (hz : Num zs) : ∀ (k i : Nat), k + i = 17 → i ≤ 16 → ∀ (y : List Int), y.length = 33 → (∀ v ∈ y, 0 ≤ v ∧ v < (i : Int) * 8589934592 + 1) →
    ∃ y', ref03_MulAdd.L0 xs ys zs k i y = some y' ∧ y'.length = 33 ∧ (∀ v ∈ y', 0 ≤ v ∧ v < 1099511627776) ∧ val 65536 y' = val 65536 y + val 65536 (zs.drop i) * 65536 ^ i + val 65536 (xs.drop i) * val 65536 ys * 65536 ^ i
  | 0, i, hk, hi, _, _, _ => by omega
  | k + 1, i, hk, hi, y, hl, hv => by
    by_cases h16 : i = 16
    · subst h16
      refine ⟨y, ?_, hl, fun v hvm => ?_, ?_⟩
      · unfold ref03_MulAdd.L0; simp
      · have := hv v hvm; omega
      · rw [show xs.drop 16 = [] from List.drop_of_length_le (by rw [hx.1]; omega), show zs.drop 16 = [] from List.drop_of_length_le (by rw [hz.1]; omega)]; simp [val]
    · have hi16 : i < 16 := by omega
      have e2 : IntKind.i64.wrap ((i : Int) + 1) = ((i + 1 : Nat) : Int) := by rw [wrap_small (by omega) (by omega)]; omega
      have gz := get_u16 hz.2 i
      unfold U16 at gz
      have gc := cell_lt hv (by omega) i
      have w1 : IntKind.u64.wrap (y.getD i 0 + zs.getD i 0) = y.getD i 0 + zs.getD i 0 := by rw [IntKind.wrap_u64]; omega
      have hv2 : ∀ v ∈ y.set i (y.getD i 0 + zs.getD i 0), 0 ≤ v ∧ v < (i : Int) * 8589934592 + 65537 := fun v hvm => by
        rcases List.mem_or_eq_of_mem_set hvm with h1 | h1
        · have := hv v h1; omega
        · rw [h1]; omega
      obtain ⟨z, hr, g1, g2, g3⟩ := line_loop i hi16 hx hy ((i : Int) * 8589934592 + 65537) (by omega) 17 0 rfl (by omega) (y.set i (y.getD i 0 + zs.getD i 0)) (by simpa using hl) (fun v hvm => by have := hv2 v hvm; omega) (fun m _ => (cell_lt hv2 (by omega) m).2)
      obtain ⟨y2, hr2, k1, k2, k3⟩ := all_loop hx hy hz k (i + 1) (by omega) (by omega) z g1 (fun v hvm => by have := g2 v hvm; omega)
      refine ⟨y2, ?_, k1, k2, ?_⟩
      · unfold ref03_MulAdd.L0
        rw [if_pos (by simp; omega)]
        simp only [nm, e2, Int.toNat_natCast, w1]
        rw [req, if_pos (by omega), req, if_pos (by omega), req, if_pos (by omega)]
        have hr' : ref03_MulAdd.L1 xs ys (i : Int) 17 0 (y.set i (y.getD i 0 + zs.getD i 0)) = some z := hr
        rw [hr', Option.bind_some]
        exact hr2
      · rw [k3, g3, val_set 65536 y i _ (by omega), val_drop 65536 (show i < xs.length by rw [hx.1]; omega), val_drop 65536 (show i < zs.length by rw [hz.1]; omega), show (65536 : Int) ^ (i + 1) = 65536 ^ i * 65536 from Int.pow_succ _ _]
        simp only [List.drop_zero, Nat.add_zero]
        generalize (65536 : Int) ^ i = E at *
        grind
theorem carry_loop {d : List Int} (hl : d.length = 33) (hd : ∀ v ∈ d, 0 ≤ v ∧ v < 1099511627776) : ∀ (k i : Nat), k + i = 34 → i ≤ 33 → ∀ (c : Int) (y : List Int), 0 ≤ c ∧ c < 1099511627776 → y.length = 2 * i → (∀ v ∈ y, U8 v) →
    ∃ c' y', ref03_MulAdd.L2 d k c i y = some y' ∧ 0 ≤ c' ∧ y'.length = 66 ∧ (∀ v ∈ y', U8 v) ∧ val 256 y' + c' * 65536 ^ 33 = val 256 y + c * 65536 ^ i + val 65536 (d.drop i) * 65536 ^ i
  | 0, i, hk, hi, _, _, _, _, _ => by omega
  | k + 1, i, hk, hi, c, y, hc, hy, hv => by
    by_cases h33 : i = 33
    · subst h33
      refine ⟨c, y, ?_, hc.1, hy, hv, ?_⟩
      · unfold ref03_MulAdd.L2; simp [hl]
      · rw [show d.drop 33 = [] from List.drop_of_length_le (by omega)]; simp [val]
    · have hi33 : i < 33 := by omega
      have e2 : IntKind.i64.wrap ((i : Int) + 1) = ((i + 1 : Nat) : Int) := by rw [wrap_small (by omega) (by omega)]; omega
      have gc := cell_lt hd (by omega) i
      have w1 : IntKind.u64.wrap (d.getD i 0 + c) = d.getD i 0 + c := by rw [IntKind.wrap_u64]; omega
      have s8 : ishr .u64 (d.getD i 0 + c) 8 = (d.getD i 0 + c) / 256 := shr_eq (w := d.getD i 0 + c) 8 (by omega)
      have s16 : ishr .u64 (d.getD i 0 + c) 16 = (d.getD i 0 + c) / 65536 := shr_eq (w := d.getD i 0 + c) 16 (by omega)
      have hap : ∀ (u v : Int), val 256 (y ++ [u, v]) = val 256 y + (u + 256 * v) * 256 ^ (2 * i) := fun u v => by
        have : ∀ (zs : List Int), val 256 (zs ++ [u, v]) = val 256 zs + (u + 256 * v) * 256 ^ zs.length := fun zs => by
          induction zs with
          | nil => simp [val]
          | cons z zs ih => simp only [List.cons_append, val, ih, List.length_cons, Int.pow_succ]; grind
        rw [this y, hy]
      have hp : (256 : Int) ^ (2 * i) = 65536 ^ i := by rw [Int.pow_mul]; rfl
      obtain ⟨c2, y2, hr, g1, g2, g3, g4⟩ := carry_loop hl hd k (i + 1) (by omega) (by omega) ((d.getD i 0 + c) / 65536) (y ++ [(d.getD i 0 + c) % 256, (d.getD i 0 + c) / 256 % 256]) (by omega) (by simp; omega) (fun v hvm => by
        rcases List.mem_append.1 hvm with h1 | h1
        · exact hv v h1
        · simp only [List.mem_cons, List.not_mem_nil, or_false] at h1
          unfold U8
          rcases h1 with h1 | h1 <;> rw [h1] <;> omega)
      refine ⟨c2, y2, ?_, g1, g2, g3, ?_⟩
      · unfold ref03_MulAdd.L2
        rw [if_pos (by simp; omega)]
        simp only [nm, e2, Int.toNat_natCast, w1, s8, s16, IntKind.wrap_u8]
        rw [req, if_pos (by omega), req, if_pos (by omega), req, if_pos (by simp; omega)]
        exact hr
      · rw [g4, hap, hp, val_drop 65536 (show i < d.length by omega), show (65536 : Int) ^ (i + 1) = 65536 ^ i * 65536 from Int.pow_succ _ _]
        have hd3 : (d.getD i 0 + c) % 256 + 256 * ((d.getD i 0 + c) / 256 % 256) + 65536 * ((d.getD i 0 + c) / 65536) = d.getD i 0 + c := by omega
        generalize (d.getD i 0 + c) % 256 + 256 * ((d.getD i 0 + c) / 256 % 256) = u at *
        generalize (d.getD i 0 + c) / 65536 = q at *
        generalize (65536 : Int) ^ i = E at *
        have : u = d.getD i 0 + c - 65536 * q := by omega
        subst this
        grind
theorem refMulAdd_eq {a b c : List Int} (ha : Key a) (hb : Key b) (hc : Key c) : ref03_MulAdd.f a b c = some (red (num a * num b + num c)) := by
  obtain ⟨x, x1, x2, x3⟩ := Of_eq ha
  obtain ⟨y, y1, y2, y3⟩ := Of_eq hb
  obtain ⟨z, z1, z2, z3⟩ := Of_eq hc
  have h0 : val 65536 (List.replicate 33 0) = 0 := by decide
  have h00 : val 256 ([] : List Int) = 0 := rfl
  obtain ⟨d, d1, d2, d3, d4⟩ := all_loop x2 y2 z2 17 0 rfl (by omega) (List.replicate 33 0) rfl (fun v hv => by rw [List.eq_of_mem_replicate hv]; omega)
  obtain ⟨q, w, w1, w2, w3, w4, w5⟩ := carry_loop d2 d3 34 0 rfl (by omega) 0 [] (by omega) rfl (by simp)
  simp only [List.drop_zero, Int.pow_zero, Int.mul_one, h0, h00, Int.zero_add, Int.zero_mul, Int.add_zero] at d4 w5
  have hd : val 65536 d = num a * num b + num c := by
    rw [d4, show val 65536 z = num c from z3, show val 65536 x = num a from x3, show val 65536 y = num b from y3, Int.add_comm]
  rw [hd] at w5
  have hw : val 256 w = num a * num b + num c := by
    have h1 := num_key ha
    have h2 := num_key hb
    have h3 := num_key hc
    have hm : num a * num b ≤ (2 ^ 256 - 1) * (2 ^ 256 - 1) := Int.mul_le_mul (by omega) (by omega) h2.1 (by decide)
    have em : ((2 : Int) ^ 256 - 1) * (2 ^ 256 - 1) + 2 ^ 256 < 65536 ^ 33 := by decide
    have hw0 := val_nonneg (B := 256) (by omega) w w4
    have hq : q = 0 := by
      rcases Int.lt_or_le 0 q with hq | hq
      · have : 1 * 65536 ^ 33 ≤ q * 65536 ^ 33 := Int.mul_le_mul_of_nonneg_right (by omega) (by decide)
        generalize (65536 : Int) ^ 33 = E at *
        generalize ((2 : Int) ^ 256 - 1) * (2 ^ 256 - 1) = M at *
        generalize (2 : Int) ^ 256 = T at *
        omega
      · omega
    rw [hq, Int.zero_mul, Int.add_zero] at w5
    exact w5
  unfold ref03_MulAdd.f
  have d1' : ref03_MulAdd.L0 x y z 17 0 (List.replicate 33 0) = some d := d1
  have w1' : ref03_MulAdd.L2 d 34 0 0 ([] : List Int) = some w := w1
  rw [x1, Option.bind_some, y1, Option.bind_some, z1, Option.bind_some, d1', Option.bind_some, w1', Option.bind_some, refReduce_eq w4 (by omega), Option.bind_some, hw]

/-! ### the laws -/
theorem reckons_abs {N : List Int → Option (List Int)} {M R : List Int → List Int → List Int → Option (List Int)} {A : List Int → List Int → Option (List Int)} {Y : List Int → Option Bool} {K : Option Bool} {a b c i1 i0 n x1 x2 : List Int}
    (hk : K = some true) (n1 : N a = some n) (m1 : M a b c = some x1) (r1 : R a b c = some x1) (a1 : A a b = some x2) (r2 : R a i1 b = some x2) (a2 : A a n = some i0) (y1 : Y n = some true) :
    ((N a).bind fun t5 => (M a b c).bind fun t10 => (R a b c).bind fun t13 => (if (t10 == t13) = true then ((A a b).bind fun t22 => (R a i1 b).bind fun t25 => some (t22 == t25)) else (some false)).bind fun q16 => (if q16 = true then ((A a t5).bind fun t35 => some (t35 == i0)) else (some false)).bind fun q29 => (if q29 = true then ((Y t5).bind fun t45 => some t45) else (some false)).bind fun q39 => (if q39 = true then (K.bind fun t55 => some t55) else (some false)).bind fun q49 => some q49) = some true := by
  simp [hk, n1, m1, r1, a1, r2, a2, y1]
theorem ScalarReckons_law {a b c : List Int} (ha : Key a) (hb : Key b) (hc : Key c) : law03_ScalarReckons.f a b c = some true := by
  have r2 := refMulAdd_eq ha key_one hb
  rw [num_one, Int.mul_one] at r2
  have a2 := Add_red ha (key_red (-num a))
  have e : red (num a + num (red (-num a))) = nought := by rw [red_add', Int.add_right_neg, red_zero]
  rw [e] at a2
  have y1 := May_eq (key_red (-num a))
  rw [num_red, decide_eq_true (mod_range _).2] at y1
  unfold law03_ScalarReckons.f
  exact reckons_abs known_eq (Neg_red ha) (MulAdd_red ha hb hc) (refMulAdd_eq ha hb hc) (Add_red ha hb) r2 a2 y1
theorem reduces_abs {R Q C D : List Int → Option (List Int)} {Y Z : List Int → Option Bool} {K : Option Bool} {a s x c : List Int} {m : Bool}
    (hk : K = some true) (h1 : R a = some x) (h2 : Q a = some x) (h3 : Y x = some true) (h4 : Y s = some m) (h5 : Z s = some m) (h6 : C s = some c) (h7 : D s = some c) :
    ((R a).bind fun t3 => (Q a).bind fun t8 => (if (t3 == t8) = true then ((Y t3).bind fun t17 => some t17) else (some false)).bind fun q11 => (if q11 = true then ((Y s).bind fun t27 => (Z s).bind fun t30 => some (t27 == t30)) else (some false)).bind fun q21 => (if q21 = true then ((C s).bind fun t40 => (D s).bind fun t43 => some (t40 == t43)) else (some false)).bind fun q34 => (if q34 = true then (K.bind fun t53 => some t53) else (some false)).bind fun q47 => some q47) = some true := by
  simp [hk, h1, h2, h3, h4, h5, h6, h7]
theorem ScalarReduces_law {a s : List Int} (hl : a.length = 64) (ha : ∀ x ∈ a, U8 x) (hs : Key s) : law03_ScalarReduces.f a s = some true := by
  have y1 := May_eq (key_red (val 256 a))
  rw [num_red, decide_eq_true (mod_range _).2] at y1
  have hc : ∃ c, scalar_Clamp.f s = some c := ⟨_, rfl⟩
  obtain ⟨c, hc⟩ := hc
  have hd := hc
  rw [Clamp_eq hs] at hd
  unfold law03_ScalarReduces.f
  exact reduces_abs known_eq (Reduce_red hl ha) (refReduce_eq ha (by omega)) y1 (May_eq hs) (refMay_eq hs) hc hd
end Go.Proofs.Ytillmeddkdcenaa
