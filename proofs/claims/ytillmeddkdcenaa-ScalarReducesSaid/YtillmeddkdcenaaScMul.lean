import Derived.Test.YtillmeddkdcenaaScLaw
namespace Go.Proofs.Ytillmeddkdcenaa
open Go Go.HW Go.RowKit
set_option linter.unusedVariables false
set_option linter.unusedSimpArgs false

abbrev W64 : Int := 18446744073709551616
theorem val_set (B : Int) : ∀ (ys : List Int) (m : Nat) (v : Int), m < ys.length → val B (ys.set m v) = val B ys + (v - ys.getD m 0) * B ^ m
  | [], _, _, h => by simp at h
  | y :: ys, 0, v, _ => by simp [val]; omega
  | y :: ys, m + 1, v, h => by
    have := val_set B ys m v (by simpa using h)
    simp only [List.set_cons_succ, val, List.getD_cons_succ, this, Int.pow_succ]
    grind
theorem all_set {ys : List Int} {m : Nat} {v : Int} (h : ∀ y ∈ ys, U64 y) (hv : U64 v) : ∀ y ∈ ys.set m v, U64 y := fun y hy => by
  rcases List.mem_or_eq_of_mem_set hy with h1 | h1
  · exact h y h1
  · rw [h1]; exact hv
theorem get_u64 {ys : List Int} (h : ∀ y ∈ ys, U64 y) (m : Nat) : U64 (ys.getD m 0) := by
  rcases Nat.lt_or_ge m ys.length with hm | hm
  · exact h _ (by simp [List.getD_eq_getElem?_getD, hm])
  · rw [List.getD_eq_getElem?_getD, List.getElem?_eq_none hm]; unfold U64; simp
theorem mul_bound {x y : Int} (hx : U64 x) (hy : U64 y) : 0 ≤ x * y ∧ x * y ≤ 340282366920938463426481119284349108225 := by
  refine ⟨Int.mul_nonneg hx.1 hy.1, ?_⟩
  have h1 : x ≤ 18446744073709551615 := by have := hx.2; omega
  have h2 : y ≤ 18446744073709551615 := by have := hy.2; omega
  have := Int.mul_le_mul h1 h2 hy.1 (by omega)
  omega
theorem row_step {xs ys y : List Int} (i j k : Nat) (hi : i < 4) (hj : j < 4) (over : Int) (hx : U64 (xs.getD i 0)) (hy : U64 (ys.getD j 0)) (hw : U64 (y.getD (i + j) 0)) (ho : U64 over) :
    scalar_MulAdd.L1 xs ys i (k + 1) over j y = scalar_MulAdd.L1 xs ys i k ((xs.getD i 0 * ys.getD j 0 + y.getD (i + j) 0 + over) / W64) ((j + 1 : Nat) : Int) (y.set (i + j) ((xs.getD i 0 * ys.getD j 0 + y.getD (i + j) 0 + over) % W64)) := by
  have e1 : IntKind.i64.wrap ((i : Int) + (j : Int)) = ((i + j : Nat) : Int) := by rw [wrap_small (by omega) (by omega)]; omega
  have e2 : IntKind.i64.wrap ((j : Int) + 1) = ((j + 1 : Nat) : Int) := by rw [wrap_small (by omega) (by omega)]; omega
  conv => lhs; unfold scalar_MulAdd.L1
  rw [if_pos (by simp; omega)]
  simp only [nm, e1, e2, Int.toNat_natCast]
  generalize hX : xs.getD i 0 = x at *
  generalize hY : ys.getD j 0 = v at *
  generalize hO : y.getD (i + j) 0 = w at *
  obtain ⟨p0, p1⟩ := mul_bound hx hy
  have eh : mul64h x v = x * v / W64 := by
    obtain ⟨a, rfl⟩ := Int.eq_ofNat_of_zero_le hx.1
    obtain ⟨b, rfl⟩ := Int.eq_ofNat_of_zero_le hy.1
    unfold mul64h; simp
  have el : mul64l x v = x * v % W64 := by
    obtain ⟨a, rfl⟩ := Int.eq_ofNat_of_zero_le hx.1
    obtain ⟨b, rfl⟩ := Int.eq_ofNat_of_zero_le hy.1
    unfold mul64l; simp
  generalize x * v = p at *
  have hx' := hx; have hy' := hy
  unfold U64 at hx hy hw ho
  have a1 := add64_eq (x := p % W64) (y := w) (c := 0) (by unfold U64 W64; omega) hw (by omega)
  have a2 := add64_eq (x := (p % W64 + w + 0) % 18446744073709551616) (y := over) (c := 0) (by unfold U64; omega) ho (by omega)
  rw [eh, el, a1.1, a1.2, a2.1, a2.2, req, if_pos (by omega), req, if_pos (by omega), req, if_pos (by omega), req, if_pos (by omega), req, if_pos (by omega), req, if_pos (by omega), req, if_pos (by omega), req, if_pos (by omega), req, if_pos (by omega), req, if_pos (by omega)]
  simp only [IntKind.wrap_u64, W64]
  congr 2 <;> omega
theorem row_end {xs ys y : List Int} (i k : Nat) (over : Int) : scalar_MulAdd.L1 xs ys i (k + 1) over ((4 : Nat) : Int) y = some (over, y) := by
  unfold scalar_MulAdd.L1; simp
theorem val_drop (B : Int) {ys : List Int} {j : Nat} (h : j < ys.length) : val B (ys.drop j) = ys.getD j 0 + B * val B (ys.drop (j + 1)) := by
  rw [List.drop_eq_getElem_cons h]
  simp [val, List.getD_eq_getElem?_getD, h]
theorem row_loop {xs ys : List Int} (i : Nat) (hi : i < 4) (hx : ∀ x ∈ xs, U64 x) (hy : ∀ y ∈ ys, U64 y) (hly : ys.length = 4) : ∀ (k j : Nat), k + j = 5 → j ≤ 4 → ∀ (over : Int) (y : List Int), U64 over → y.length = 8 → (∀ v ∈ y, U64 v) →
    ∃ over' y', scalar_MulAdd.L1 xs ys i k over j y = some (over', y') ∧ U64 over' ∧ y'.length = 8 ∧ (∀ v ∈ y', U64 v) ∧ val W64 y' + over' * W64 ^ (i + 4) = val W64 y + over * W64 ^ (i + j) + xs.getD i 0 * val W64 (ys.drop j) * W64 ^ (i + j) ∧ ∀ m, i + 4 ≤ m → y'.getD m 0 = y.getD m 0
  | 0, j, hk, hj, _, _, _, _, _ => by omega
  | k + 1, j, hk, hj, over, y, ho, hl, hv => by
    by_cases h4 : j = 4
    · subst h4
      refine ⟨over, y, row_end i k over, ho, hl, hv, ?_, fun _ _ => rfl⟩
      rw [show ys.drop 4 = [] from List.drop_of_length_le (by omega)]
      simp [val]
    · have hj4 : j < 4 := by omega
      have gx := get_u64 hx i
      have gy := get_u64 hy j
      have gw := get_u64 hv (i + j)
      obtain ⟨p0, p1⟩ := mul_bound gx gy
      have ho' : U64 ((xs.getD i 0 * ys.getD j 0 + y.getD (i + j) 0 + over) / W64) := by
        generalize xs.getD i 0 * ys.getD j 0 = p at *
        unfold U64 at *; unfold W64; omega
      have hm' : U64 ((xs.getD i 0 * ys.getD j 0 + y.getD (i + j) 0 + over) % W64) := by
        generalize xs.getD i 0 * ys.getD j 0 = p at *
        unfold U64 at *; unfold W64; omega
      obtain ⟨o2, y2, hr, g1, g2, g3, g4, g5⟩ := row_loop i hi hx hy hly k (j + 1) (by omega) (by omega) _ (y.set (i + j) ((xs.getD i 0 * ys.getD j 0 + y.getD (i + j) 0 + over) % W64)) ho' (by simpa using hl) (all_set hv hm')
      refine ⟨o2, y2, by rw [row_step i j k hi hj4 over gx gy gw ho]; exact hr, g1, g2, g3, ?_, fun m hm => ?_⟩
      · rw [g4, val_set W64 y (i + j) _ (by omega), val_drop W64 (show j < ys.length by omega)]
        have hd := Int.emod_add_mul_ediv (xs.getD i 0 * ys.getD j 0 + y.getD (i + j) 0 + over) W64
        generalize (xs.getD i 0 * ys.getD j 0 + y.getD (i + j) 0 + over) % W64 = u at *
        generalize (xs.getD i 0 * ys.getD j 0 + y.getD (i + j) 0 + over) / W64 = q at *
        rw [show i + (j + 1) = (i + j) + 1 by omega, Int.pow_succ]
        generalize W64 ^ (i + j) = E at *
        generalize val W64 (ys.drop (j + 1)) = R at *
        generalize xs.getD i 0 = a at *
        generalize ys.getD j 0 = b at *
        generalize y.getD (i + j) 0 = c at *
        generalize W64 = B at *
        have : u = a * b + c + over - B * q := by omega
        subst this
        grind
      · rw [g5 m hm, List.getD_eq_getElem?_getD, List.getElem?_set_ne (by omega), ← List.getD_eq_getElem?_getD]
theorem mul_loop {xs ys : List Int} (hx : ∀ x ∈ xs, U64 x) (hlx : xs.length = 4) (hy : ∀ y ∈ ys, U64 y) (hly : ys.length = 4) : ∀ (k i : Nat), k + i = 5 → i ≤ 4 → ∀ (y : List Int), y.length = 8 → (∀ v ∈ y, U64 v) → (∀ m, i + 4 ≤ m → y.getD m 0 = 0) →
    ∃ y', scalar_MulAdd.L0 xs ys k i y = some y' ∧ y'.length = 8 ∧ (∀ v ∈ y', U64 v) ∧ val W64 y' = val W64 y + val W64 (xs.drop i) * val W64 ys * W64 ^ i
  | 0, i, hk, hi, _, _, _, _ => by omega
  | k + 1, i, hk, hi, y, hl, hv, hz => by
    by_cases h4 : i = 4
    · subst h4
      refine ⟨y, ?_, hl, hv, ?_⟩
      · unfold scalar_MulAdd.L0; simp
      · rw [show xs.drop 4 = [] from List.drop_of_length_le (by omega)]; simp [val]
    · have hi4 : i < 4 := by omega
      obtain ⟨o, z, hr, g1, g2, g3, g4, g5⟩ := row_loop i hi4 hx hy hly 5 0 (by omega) (by omega) 0 y (by unfold U64; omega) hl hv
      have hz' : ∀ m, i + 1 + 4 ≤ m → (z.set (i + 4) o).getD m 0 = 0 := fun m hm => by
        rw [List.getD_eq_getElem?_getD, List.getElem?_set_ne (by omega), ← List.getD_eq_getElem?_getD, g5 m (by omega), hz m (by omega)]
      obtain ⟨y', hr', k1, k2, k3⟩ := mul_loop hx hlx hy hly k (i + 1) (by omega) (by omega) (z.set (i + 4) o) (by simpa using g2) (all_set g3 g1) hz'
      have e1 : IntKind.i64.wrap ((i : Int) + 4) = ((i + 4 : Nat) : Int) := by rw [wrap_small (by omega) (by omega)]; omega
      have e2 : IntKind.i64.wrap ((i : Int) + 1) = ((i + 1 : Nat) : Int) := by rw [wrap_small (by omega) (by omega)]; omega
      refine ⟨y', ?_, k1, k2, ?_⟩
      · unfold scalar_MulAdd.L0
        rw [if_pos (by simp; omega)]
        have : scalar_MulAdd.L1 xs ys (i : Int) 5 0 0 y = some (o, z) := hr
        rw [this]
        simp only [Option.bind_some, e1, e2, Int.toNat_natCast]
        rw [req, if_pos (by omega), req, if_pos (by omega)]
        exact hr'
      · rw [k3, val_set W64 z (i + 4) o (by omega), g5 (i + 4) (by omega), hz (i + 4) (by omega), val_drop W64 (show i < xs.length by omega), show W64 ^ (i + 1) = W64 ^ i * W64 from Int.pow_succ _ _]
        simp only [List.drop_zero, Nat.add_zero, Int.zero_mul, Int.add_zero] at g4
        generalize W64 ^ (i + 4) = F at *
        generalize W64 ^ i = E at *
        generalize val W64 (xs.drop (i + 1)) = R at *
        generalize val W64 ys = Y at *
        generalize val W64 z = Z at *
        generalize val W64 y = V at *
        generalize xs.getD i 0 = a at *
        generalize W64 = B at *
        clear hz hz' hr hr' k3 g5
        grind
theorem add_loop {zs : List Int} (hz : ∀ z ∈ zs, U64 z) (hlz : zs.length = 4) : ∀ (k i : Nat), k + i = 9 → i ≤ 8 → ∀ (c : Int) (y : List Int), 0 ≤ c ∧ c ≤ 1 → y.length = 8 → (∀ v ∈ y, U64 v) →
    ∃ c' y', scalar_MulAdd.L2 zs k c i y = some y' ∧ (0 ≤ c' ∧ c' ≤ 1) ∧ y'.length = 8 ∧ (∀ v ∈ y', U64 v) ∧ val W64 y' + c' * W64 ^ 8 = val W64 y + c * W64 ^ i + val W64 (zs.drop i) * W64 ^ i
  | 0, i, hk, hi, _, _, _, _, _ => by omega
  | k + 1, i, hk, hi, c, y, hc, hl, hv => by
    by_cases h8 : i = 8
    · subst h8
      refine ⟨c, y, ?_, hc, hl, hv, ?_⟩
      · unfold scalar_MulAdd.L2; simp
      · rw [show zs.drop 8 = [] from List.drop_of_length_le (by omega)]; simp [val]
    · have hi8 : i < 8 := by omega
      have gw := get_u64 hv i
      have gz := get_u64 hz i
      have hn : ((if decide ((i : Int) < 4) = true then req (0 ≤ (i : Int)) (req ((i : Int) < 4) (some (zs.getD (i : Int).toNat 0))) else some 0) : Option Int) = some (zs.getD i 0) := by
        by_cases h4 : i < 4
        · rw [if_pos (by simp; omega), req, if_pos (by omega), req, if_pos (by omega)]; rfl
        · rw [if_neg (by simp; omega), List.getD_eq_getElem?_getD, List.getElem?_eq_none (by omega)]; rfl
      have e2 : IntKind.i64.wrap ((i : Int) + 1) = ((i + 1 : Nat) : Int) := by rw [wrap_small (by omega) (by omega)]; omega
      have ha := add64_eq gw gz hc
      have hc' : 0 ≤ (y.getD i 0 + zs.getD i 0 + c) / W64 ∧ (y.getD i 0 + zs.getD i 0 + c) / W64 ≤ 1 := by unfold U64 at *; unfold W64; omega
      have hm' : U64 ((y.getD i 0 + zs.getD i 0 + c) % W64) := by unfold U64 at *; unfold W64; omega
      obtain ⟨c2, y2, hr, g1, g2, g3, g4⟩ := add_loop hz hlz k (i + 1) (by omega) (by omega) _ (y.set i ((y.getD i 0 + zs.getD i 0 + c) % W64)) hc' (by simpa using hl) (all_set hv hm')
      refine ⟨c2, y2, ?_, g1, g2, g3, ?_⟩
      · unfold scalar_MulAdd.L2
        rw [if_pos (by simp; omega), hn]
        simp only [Option.bind_some, nm, e2, Int.toNat_natCast]
        rw [req, if_pos (by omega), req, if_pos (by omega), req, if_pos (by omega), ha.1, ha.2]
        exact hr
      · have hzd : val W64 (zs.drop i) = zs.getD i 0 + W64 * val W64 (zs.drop (i + 1)) := by
          by_cases h4 : i < zs.length
          · exact val_drop W64 h4
          · rw [List.drop_of_length_le (by omega), List.drop_of_length_le (by omega), List.getD_eq_getElem?_getD, List.getElem?_eq_none (by omega)]; rfl
        rw [g4, val_set W64 y i _ (by omega), hzd, Int.pow_succ]
        have hd := Int.emod_add_mul_ediv (y.getD i 0 + zs.getD i 0 + c) W64
        generalize (y.getD i 0 + zs.getD i 0 + c) % W64 = u at *
        generalize (y.getD i 0 + zs.getD i 0 + c) / W64 = q at *
        generalize W64 ^ i = E at *
        generalize val W64 (zs.drop (i + 1)) = R at *
        generalize y.getD i 0 = a at *
        generalize zs.getD i 0 = b at *
        generalize W64 = B at *
        have : u = a + b + c - B * q := by omega
        subst this
        grind

/-! ### what the functions give -/
theorem num_key {a : List Int} (h : Key a) : 0 ≤ num a ∧ num a < 2 ^ 256 := by
  refine ⟨val_nonneg (by omega) a h.2, ?_⟩
  have := val_lt (B := 256) (by omega) a h.2
  rw [h.1] at this
  exact this
def key32 (v : Int) : List Int := digits 256 32 v
theorem key32_key (v : Int) : Key (key32 v) := ⟨digits_length 256 32 v, fun x hx => digits_range (B := 256) (by omega) 32 v x hx⟩
theorem num_key32 {v : Int} (h0 : 0 ≤ v) (h1 : v < 2 ^ 256) : num (key32 v) = v := val_digits (by omega) 32 v h0 (by rw [show (256 : Int) ^ 32 = 2 ^ 256 by decide]; exact h1)
theorem key32_num {a : List Int} (h : Key a) : key32 (num a) = a := by
  have := digits_val (B := 256) (by omega) a h.2
  rwa [h.1] at this
theorem key_inj {a b : List Int} (ha : Key a) (hb : Key b) (h : num a = num b) : a = b := by rw [← key32_num ha, ← key32_num hb, h]
theorem L_pos : 0 < L := by decide
theorem mod_range (v : Int) : 0 ≤ v % L ∧ v % L < L := ⟨Int.emod_nonneg _ (by decide), Int.emod_lt_of_pos _ L_pos⟩
theorem num_mod (v : Int) : num (key32 (v % L)) = v % L := num_key32 (mod_range v).1 (Int.lt_trans (mod_range v).2 (by decide))

theorem MulAdd_eq {a b c : List Int} (ha : Key a) (hb : Key b) (hc : Key c) : scalar_MulAdd.f a b c = some (key32 ((num a * num b + num c) % L)) := by
  obtain ⟨x0, x1, x2, x3, hx, ux0, ux1, ux2, ux3, hxv⟩ := words_eq ha
  obtain ⟨y0, y1, y2, y3, hy, uy0, uy1, uy2, uy3, hyv⟩ := words_eq hb
  obtain ⟨z0, z1, z2, z3, hz, uz0, uz1, uz2, uz3, hzv⟩ := words_eq hc
  have hX : ∀ x ∈ [x0, x1, x2, x3], U64 x := by simp [ux0, ux1, ux2, ux3]
  have hY : ∀ x ∈ [y0, y1, y2, y3], U64 x := by simp [uy0, uy1, uy2, uy3]
  have hZ : ∀ x ∈ [z0, z1, z2, z3], U64 x := by simp [uz0, uz1, uz2, uz3]
  have u0 : U64 0 := by unfold U64; omega
  obtain ⟨p, hp, lp, up, vp⟩ := mul_loop hX rfl hY rfl 5 0 (by omega) (by omega) [0, 0, 0, 0, 0, 0, 0, 0] rfl (by simp [u0]) (fun m hm => by
    match m with
    | 0 | 1 | 2 | 3 | 4 | 5 | 6 | 7 => rfl
    | m + 8 => rfl)
  obtain ⟨cc, q, hq, hcc, lq, uq, vq⟩ := add_loop hZ rfl 9 0 (by omega) (by omega) 0 p (by omega) lp up
  obtain ⟨s0, s1, s2, s3, hs, us0, us1, us2, us3, hsv⟩ := reduce_eq lq uq
  unfold scalar_MulAdd.f
  rw [hx, hy, hz]
  simp only [Option.bind_some]
  have hp' : scalar_MulAdd.L0 [x0, x1, x2, x3] [y0, y1, y2, y3] 5 0 (List.replicate 8 0) = some p := hp
  have hq' : scalar_MulAdd.L2 [z0, z1, z2, z3] 9 0 0 p = some q := hq
  rw [hp', Option.bind_some, hq', Option.bind_some, hs, Option.bind_some, key_eq us0 us1 us2 us3, Option.bind_some]
  have hvp : val W64 p = num a * num b := by
    rw [vp]
    simp only [List.drop_zero]
    rw [show val W64 [x0, x1, x2, x3] = num a from hxv, show val W64 [y0, y1, y2, y3] = num b from hyv]
    simp [val]
  have hvq : val W64 q = num a * num b + num c := by
    rw [hvp] at vq
    simp only [List.drop_zero] at vq
    rw [show val W64 [z0, z1, z2, z3] = num c from hzv] at vq
    simp only [Int.zero_mul, Int.add_zero, Int.pow_zero, Int.mul_one] at vq
    have h1 := num_key ha
    have h2 := num_key hb
    have h3 := num_key hc
    have hm : num a * num b ≤ (2 ^ 256 - 1) * (2 ^ 256 - 1) := Int.mul_le_mul (by omega) (by omega) h2.1 (by decide)
    have hq0 : 0 ≤ val W64 q := val_nonneg (B := W64) (by decide) q uq
    have e8 : W64 ^ 8 = 13407807929942597099574024998205846127479365820592393377723561443721764030073546976801874298166903427690031858186486050853753882811946569946433649006084096 := by decide
    rw [e8] at vq
    have em : ((2 : Int) ^ 256 - 1) * (2 ^ 256 - 1) = 13407807929942597099574024998205846127479365820592393377723561443721764030073315392623399665776056285720014482370779510884422601683867654778417822746804225 := by decide
    rw [em] at hm
    have h32 : num c ≤ 115792089237316195423570985008687907853269984665640564039457584007913129639935 := by have := h3.2; omega
    have h30 := h3.1
    omega
  have : val 18446744073709551616 [s0, s1, s2, s3] = (num a * num b + num c) % L := by rw [hsv, show val 18446744073709551616 q = num a * num b + num c from hvq]
  rw [this]; rfl
end Go.Proofs.Ytillmeddkdcenaa
