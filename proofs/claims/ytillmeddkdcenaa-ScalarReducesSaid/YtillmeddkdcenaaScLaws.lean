import Derived.Test.YtillmeddkdcenaaScMul
namespace Go.Proofs.Ytillmeddkdcenaa
open Go Go.HW Go.RowKit
set_option linter.unusedVariables false
set_option linter.unusedSimpArgs false

def one : List Int := 1 :: List.replicate 31 0
def nought : List Int := List.replicate 32 0
theorem key_small {x : Int} (h : U8 x) : Key (x :: List.replicate 31 0) := ⟨rfl, fun y hy => by
  rcases List.mem_cons.1 hy with rfl | hy
  · exact h
  · rw [List.eq_of_mem_replicate hy]; unfold U8; omega⟩
theorem key_nought : Key nought := ⟨rfl, fun y hy => by rw [List.eq_of_mem_replicate hy]; unfold U8; omega⟩
theorem val_zeros : ∀ n, val 256 (List.replicate n 0) = 0
  | 0 => rfl
  | n + 1 => by rw [List.replicate_succ]; simp [val, val_zeros n]
theorem num_small (x : Int) : num (x :: List.replicate 31 0) = x := by simp [num, val, val_zeros]
theorem num_nought : num nought = 0 := val_zeros 32
theorem key_one : Key one := key_small (by unfold U8; omega)
theorem num_one : num one = 1 := num_small 1

theorem Add_eq {a b : List Int} (ha : Key a) (hb : Key b) : scalar_Add.f a b = some (key32 ((num a + num b) % L)) := by
  unfold scalar_Add.f
  have := MulAdd_eq ha key_one hb
  rw [num_one, Int.mul_one] at this
  rw [show (1 :: List.replicate 31 0 : List Int) = one from rfl, this]; rfl

theorem neg_run (r0 r1 r2 r3 : Int) : scalar_Neg.L0 [r0, r1, r2, r3] [6346243789798364141, 1503914060200516822, 0, 1152921504606846976] 5 0 0 (List.replicate 4 0) =
    let b1 := sub64c 6346243789798364141 r0 0
    let b2 := sub64c 1503914060200516822 r1 b1
    let b3 := sub64c 0 r2 b2
    some [sub64 6346243789798364141 r0 0, sub64 1503914060200516822 r1 b1, sub64 0 r2 b2, sub64 1152921504606846976 r3 b3] := by
  have hc : ∀ x y b, sub64c x y b ≤ 1 := fun x y b => by unfold sub64c; split <;> simp
  simp [scalar_Neg.L0, req, nm, hc, List.replicate, IntKind.wrap_i64]
theorem neg_eq {r0 r1 r2 r3 : Int} (h0 : U64 r0) (h1 : U64 r1) (h2 : U64 r2) (h3 : U64 r3) (hv : val W64 [r0, r1, r2, r3] < L) :
    ∃ s0 s1 s2 s3, scalar_Neg.L0 [r0, r1, r2, r3] [6346243789798364141, 1503914060200516822, 0, 1152921504606846976] 5 0 0 (List.replicate 4 0) = some [s0, s1, s2, s3] ∧ U64 s0 ∧ U64 s1 ∧ U64 s2 ∧ U64 s3 ∧ val W64 [s0, s1, s2, s3] = L - val W64 [r0, r1, r2, r3] := by
  rw [neg_run]
  dsimp only
  obtain ⟨s0, c0⟩ := sub64_eq (b := 0) (show U64 6346243789798364141 by unfold U64; omega) h0 (by omega)
  generalize e1 : sub64c 6346243789798364141 r0 0 = b1 at *
  obtain ⟨s1, c1⟩ := sub64_eq (b := b1) (show U64 1503914060200516822 by unfold U64; omega) h1 (by omega)
  generalize e2 : sub64c 1503914060200516822 r1 b1 = b2 at *
  obtain ⟨s2, c2⟩ := sub64_eq (b := b2) (show U64 0 by unfold U64; omega) h2 (by omega)
  generalize e3 : sub64c 0 r2 b2 = b3 at *
  obtain ⟨s3, c3⟩ := sub64_eq (b := b3) (show U64 1152921504606846976 by unfold U64; omega) h3 (by omega)
  rw [s0, s1, s2, s3]
  unfold U64 at *
  clear e1 e2 e3 s0 s1 s2 s3
  refine ⟨_, _, _, _, rfl, ?_, ?_, ?_, ?_, ?_⟩
  · omega
  · omega
  · omega
  · omega
  · simp only [val, L, W64] at hv ⊢; omega
theorem sub_mod_L {v : Int} (h0 : 0 ≤ v) (h1 : v < L) : (if L - v < L then L - v else L - v - L) = (-v) % L := by
  by_cases hz : v = 0
  · subst hz; rfl
  · rw [if_pos (by omega), ← Int.add_emod_right, Int.emod_eq_of_lt] <;> omega
theorem neg_mod (v : Int) : (-(v % L)) % L = (-v) % L := by
  have h := Int.emod_add_mul_ediv v L
  rw [show (-v) = -(v % L) + L * (-(v / L)) by grind, Int.add_mul_emod_self_left]
theorem Neg_eq {a : List Int} (ha : Key a) : scalar_Neg.f a = some (key32 ((-num a) % L)) := by
  have hm := MulAdd_eq ha key_one key_nought
  rw [num_one, Int.mul_one, num_nought, Int.add_zero] at hm
  obtain ⟨w0, w1, w2, w3, hw, u0, u1, u2, u3, hv⟩ := words_eq (key32_key (num a % L))
  rw [num_mod] at hv
  obtain ⟨r0, r1, r2, r3, hr, v0, v1, v2, v3, hrv⟩ := less_eq u0 u1 u2 u3
  rw [hv, if_pos (mod_range _).2] at hrv
  obtain ⟨s0, s1, s2, s3, hs, x0, x1, x2, x3, hsv⟩ := neg_eq v0 v1 v2 v3 (by rw [show val W64 [r0, r1, r2, r3] = num a % L from hrv]; exact (mod_range _).2)
  obtain ⟨t0, t1, t2, t3, ht, y0, y1, y2, y3, htv⟩ := less_eq x0 x1 x2 x3
  unfold scalar_Neg.f
  rw [show (1 :: List.replicate 31 0 : List Int) = one from rfl, show (List.replicate 32 0 : List Int) = nought from rfl, hm, Option.bind_some, hw, Option.bind_some, hr, Option.bind_some]
  unfold scalar_order.f
  rw [Option.bind_some, hs, Option.bind_some, ht, Option.bind_some, key_eq y0 y1 y2 y3, Option.bind_some]
  rw [htv, show val 18446744073709551616 [s0, s1, s2, s3] = L - num a % L by rw [show val 18446744073709551616 [s0, s1, s2, s3] = L - val W64 [r0, r1, r2, r3] from hsv, show val W64 [r0, r1, r2, r3] = num a % L from hrv]]
  rw [sub_mod_L (mod_range _).1 (mod_range _).2, neg_mod]; rfl
theorem Order_eq : scalar_Order.f = some (key32 L) := by
  unfold scalar_Order.f scalar_order.f
  rw [Option.bind_some, key_eq (by unfold U64; omega) (by unfold U64; omega) (by unfold U64; omega) (by unfold U64; omega), Option.bind_some]
  rfl
theorem num_L : num (key32 L) = L := num_key32 (by decide) (by decide)
theorem words_inj {w0 w1 w2 w3 r0 r1 r2 r3 : Int} (u0 : U64 w0) (u1 : U64 w1) (u2 : U64 w2) (u3 : U64 w3) (v0 : U64 r0) (v1 : U64 r1) (v2 : U64 r2) (v3 : U64 r3) :
    ([r0, r1, r2, r3] == [w0, w1, w2, w3]) = decide (val W64 [r0, r1, r2, r3] = val W64 [w0, w1, w2, w3]) := by
  have e : val W64 [r0, r1, r2, r3] = val W64 [w0, w1, w2, w3] ↔ [r0, r1, r2, r3] = [w0, w1, w2, w3] := by
    constructor
    · intro h
      simp only [val, W64] at h
      unfold U64 at *
      simp only [List.cons.injEq, and_true]
      omega
    · intro h; rw [h]
  by_cases h : val W64 [r0, r1, r2, r3] = val W64 [w0, w1, w2, w3]
  · rw [decide_eq_true h, e.1 h]; simp
  · rw [decide_eq_false h]; simp only [beq_eq_false_iff_ne, ne_eq]; exact fun h2 => h (e.2 h2)
theorem May_eq {a : List Int} (ha : Key a) : scalar_May.f a = some (decide (num a < L)) := by
  obtain ⟨w0, w1, w2, w3, hw, u0, u1, u2, u3, hv⟩ := words_eq ha
  obtain ⟨r0, r1, r2, r3, hr, v0, v1, v2, v3, hrv⟩ := less_eq u0 u1 u2 u3
  unfold scalar_May.f
  rw [hw, Option.bind_some, hr, Option.bind_some, words_inj u0 u1 u2 u3 v0 v1 v2 v3, show val W64 [r0, r1, r2, r3] = _ from hrv, show val W64 [w0, w1, w2, w3] = num a from hv]
  have hL := L_pos
  by_cases h : num a < L
  · rw [if_pos h, decide_eq_true h, decide_eq_true rfl]
  · rw [if_neg h, decide_eq_false h, decide_eq_false (by omega)]

theorem ref_order : ref03_Order.f.bind (fun t => ref02_Bytes.f t) = some (key32 L) := by kernel_rfl
theorem known_eq : law03_known.f = some true := by
  have h2 : Key (2 :: List.replicate 31 0) := key_small (by unfold U8; omega)
  have h3 : Key (3 :: List.replicate 31 0) := key_small (by unfold U8; omega)
  have h4 : Key (4 :: List.replicate 31 0) := key_small (by unfold U8; omega)
  unfold law03_known.f
  rw [MulAdd_eq h2 h3 h4, num_small, num_small, num_small, Option.bind_some]
  rw [show (key32 ((2 * 3 + 4) % L) == (10 :: List.replicate 31 0)) = true by decide +kernel, if_pos rfl, show (1 :: List.replicate 31 0 : List Int) = one from rfl, Neg_eq key_one, num_one, Option.bind_some]
  rw [show ((key32 (-1 % L)).getD (0 : Int).toNat 0 == 236) = true by decide +kernel, Option.bind_some, if_pos rfl, Order_eq, Option.bind_some]
  have := ref_order
  cases ho : ref03_Order.f with
  | none => rw [ho] at this; cases this
  | some t =>
    rw [ho, Option.bind_some] at this
    rw [Option.bind_some, this]
    simp

theorem gen_mul (m a b c : Int) : (a % m * b + c) % m = (a * b + c) % m := by rw [Int.add_emod, Int.mul_emod, Int.emod_emod, ← Int.mul_emod, ← Int.add_emod]
theorem gen_add (m a b : Int) : (a % m + b) % m = (a + b) % m := by rw [Int.add_emod, Int.emod_emod, ← Int.add_emod]
theorem gen_neg (m a : Int) : (-(a % m)) % m = (-a) % m := by
  have h := Int.emod_add_mul_ediv a m
  rw [show (-a) = -(a % m) + m * (-(a / m)) by grind, Int.add_mul_emod_self_left]
theorem mk_one : (1 :: List.replicate 31 0 : List Int) = one := rfl
theorem mk_nought : (List.replicate 32 0 : List Int) = nought := rfl
theorem nought_eq : nought = key32 0 := by decide +kernel
theorem mk0 (v : Int) : Key (key32 (v % L)) := key32_key _
/-- 32 bytes of what is left modulo L. -/
def red (v : Int) : List Int := key32 (v % L)
theorem key_red (v : Int) : Key (red v) := key32_key _
theorem num_red (v : Int) : num (red v) = v % L := num_mod v
theorem red_congr {v w : Int} (h : v % L = w % L) : red v = red w := by unfold red; rw [h]
theorem red_mul (a b c : Int) : red (num (red a) * b + c) = red (a * b + c) := red_congr (by rw [num_red]; exact gen_mul L a b c)
theorem red_mul' (a b c : Int) : red (b * num (red a) + c) = red (b * a + c) := by rw [Int.mul_comm b, Int.mul_comm b, red_mul]
theorem red_add (a b : Int) : red (num (red a) + b) = red (a + b) := red_congr (by rw [num_red]; exact gen_add L a b)
theorem red_add' (a b : Int) : red (b + num (red a)) = red (b + a) := by rw [Int.add_comm b, Int.add_comm b, red_add]
theorem red_neg (a : Int) : red (-(num (red a))) = red (-a) := red_congr (by rw [num_red]; exact gen_neg L a)
theorem red_zero : red 0 = nought := by rw [nought_eq]; rfl
theorem MulAdd_red {a b c : List Int} (ha : Key a) (hb : Key b) (hc : Key c) : scalar_MulAdd.f a b c = some (red (num a * num b + num c)) := MulAdd_eq ha hb hc
theorem Add_red {a b : List Int} (ha : Key a) (hb : Key b) : scalar_Add.f a b = some (red (num a + num b)) := Add_eq ha hb
theorem Neg_red {a : List Int} (ha : Key a) : scalar_Neg.f a = some (red (-num a)) := Neg_eq ha

theorem signs_abs {M : List Int → List Int → List Int → Option (List Int)} {N : List Int → Option (List Int)} {K : Option Bool} {a b i1 i0 x1 x2 x3 x4 : List Int} (hk : K = some true)
    (m1 : M a i1 i0 = some x1) (n1 : N a = some x3) (n2 : N b = some x4) (m2 : M a b i0 = some x2) (n3 : N x3 = some x1) (m3 : M x3 b x2 = some i0) (m4 : M x3 x4 i0 = some x2) :
    ((M a i1 i0).bind fun t4 => (N a).bind fun t8 => (N t8).bind fun t13 => (if (t13 == t4) = true then ((M a b i0).bind fun t22 => (M t8 b t22).bind fun t25 => some (t25 == i0)) else (some false)).bind fun q16 => (if q16 = true then ((N b).bind fun t35 => (M t8 t35 i0).bind fun t38 => (M a b i0).bind fun t41 => some (t38 == t41)) else (some false)).bind fun q29 => (if q29 = true then (K.bind fun t51 => some t51) else (some false)).bind fun q45 => some q45) = some true := by
  simp [hk, m1, n1, n2, m2, n3, m3, m4]
theorem is_abs {M : List Int → List Int → List Int → Option (List Int)} {A : List Int → List Int → Option (List Int)} {K : Option Bool} {a0 a1 a2 i0 x1 x2 x3 x4 x5 y1 y2 y3 y4 : List Int} (hk : K = some true)
    (m1 : M a0 a1 i0 = some x1) (m2 : M a0 a2 i0 = some x2) (m3 : M a1 a0 i0 = some x1) (a1' : A a1 a2 = some x5) (a2' : A a0 a1 = some x4) (m4 : M a1 a2 i0 = some x3) (m5 : M a0 a1 a2 = some y4) (m6 : M a0 x5 i0 = some y1) (m7 : M a0 x3 i0 = some y2)
    (a3 : A x1 x2 = some y1) (m8 : M x1 a2 i0 = some y2) (a4 : A x4 a2 = some y3) (a5 : A x1 a2 = some y4) (a6 : A a0 x5 = some y3) :
    ((M a0 a1 i0).bind fun t6 => (M a0 a2 i0).bind fun t9 => (M a1 a0 i0).bind fun t15 => (if (t15 == t6) = true then ((A a1 a2).bind fun t24 => (M a0 t24 i0).bind fun t27 => (A t6 t9).bind fun t30 => some (t27 == t30)) else (some false)).bind fun q18 => (if q18 = true then ((M t6 a2 i0).bind fun t40 => (M a1 a2 i0).bind fun t43 => (M a0 t43 i0).bind fun t46 => some (t40 == t46)) else (some false)).bind fun q34 => (if q34 = true then ((A a0 a1).bind fun t56 => (A t56 a2).bind fun t59 => (A a1 a2).bind fun t62 => (A a0 t62).bind fun t65 => some (t59 == t65)) else (some false)).bind fun q50 => (if q50 = true then ((M a0 a1 a2).bind fun t75 => (A t6 a2).bind fun t78 => some (t75 == t78)) else (some false)).bind fun q69 => (if q69 = true then (K.bind fun t88 => some t88) else (some false)).bind fun q82 => some q82) = some true := by
  simp [hk, m1, m2, m3, a1', a2', m4, m5, m6, m7, a3, m8, a4, a5, a6]
theorem ScalarSigns_law {a b : List Int} (ha : Key a) (hb : Key b) : law03_ScalarSigns.f a b = some true := by
  have hk := known_eq
  have m1 := MulAdd_red ha key_one key_nought
  have n1 := Neg_red ha
  have n2 := Neg_red hb
  have m2 := MulAdd_red ha hb key_nought
  have n3 := Neg_red (key_red (-num a))
  have m3 := MulAdd_red (key_red (-num a)) hb (key_red (num a * num b + num nought))
  have m4 := MulAdd_red (key_red (-num a)) (key_red (-num b)) key_nought
  have e1 : red (-num (red (-num a))) = red (num a * num one + num nought) := by rw [red_neg, num_one, num_nought, Int.neg_neg, Int.mul_one, Int.add_zero]
  have e2 : red (num (red (-num a)) * num b + num (red (num a * num b + num nought))) = nought := by
    rw [red_add', red_mul, num_nought, Int.add_zero, Int.neg_mul, Int.add_left_neg, red_zero]
  have e3 : red (num (red (-num a)) * num (red (-num b)) + num nought) = red (num a * num b + num nought) := by
    rw [red_mul, red_mul', Int.neg_mul_neg]
  rw [e1] at n3
  rw [e2] at m3
  rw [e3] at m4
  unfold law03_ScalarSigns.f
  exact signs_abs hk m1 n1 n2 m2 n3 m3 m4
theorem ScalarIs_law {a b c : List Int} (ha : Key a) (hb : Key b) (hc : Key c) : law03_ScalarIs.f a b c = some true := by
  have hk := known_eq
  have m1 := MulAdd_red ha hb key_nought
  have m2 := MulAdd_red ha hc key_nought
  have m3 := MulAdd_red hb ha key_nought
  have a1 := Add_red hb hc
  have a2 := Add_red ha hb
  have m4 := MulAdd_red hb hc key_nought
  have m5 := MulAdd_red ha hb hc
  have m6 := MulAdd_red ha (key_red (num b + num c)) key_nought
  have m7 := MulAdd_red ha (key_red (num b * num c + num nought)) key_nought
  have a3 := Add_red (key_red (num a * num b + num nought)) (key_red (num a * num c + num nought))
  have m8 := MulAdd_red (key_red (num a * num b + num nought)) hc key_nought
  have a4 := Add_red (key_red (num a + num b)) hc
  have a5 := Add_red (key_red (num a * num b + num nought)) hc
  have a6 := Add_red ha (key_red (num b + num c))
  have e1 : red (num b * num a + num nought) = red (num a * num b + num nought) := by rw [Int.mul_comm]
  have e2 : red (num a * num (red (num b + num c)) + num nought) = red (num (red (num a * num b + num nought)) + num (red (num a * num c + num nought))) := by
    rw [red_mul', red_add, red_add', num_nought, Int.add_zero, Int.add_zero, Int.add_zero, Int.mul_add]
  have e3 : red (num (red (num a * num b + num nought)) * num c + num nought) = red (num a * num (red (num b * num c + num nought)) + num nought) := by
    rw [red_mul, red_mul', num_nought, Int.add_zero, Int.add_zero, Int.add_zero, Int.add_zero, Int.mul_assoc]
  have e4 : red (num (red (num a + num b)) + num c) = red (num a + num (red (num b + num c))) := by rw [red_add, red_add', Int.add_assoc]
  have e5 : red (num a * num b + num c) = red (num (red (num a * num b + num nought)) + num c) := by rw [red_add, num_nought, Int.add_zero]
  rw [e1] at m3
  rw [e2] at m6
  rw [e3] at m8
  rw [e4] at a4
  rw [e5] at m5
  unfold law03_ScalarIs.f
  exact is_abs hk m1 m2 m3 a1 a2 m4 m5 m6 m7 a3 m8 a4 a5 a6
theorem ScalarWhole_law {s : List Int} {t : Int} (hs : Key s) (ht : U8 t) : law03_ScalarWhole.f s t = some true := by
  have hk := key_small ht
  unfold law03_ScalarWhole.f
  rw [mk_one, mk_nought, Order_eq, Option.bind_some, MulAdd_eq (key32_key L) hk key_nought, MulAdd_eq hs key_one key_nought, May_eq (key32_key L), May_eq hs, num_L, num_small, num_one, num_nought]
  simp only [Option.bind_some, Int.add_zero, Int.mul_one]
  rw [MulAdd_eq (key32_key L) hk (mk0 _), num_L, num_mod, num_small, Int.mul_add_emod_self_left, Int.mul_emod_right, Int.emod_emod, known_eq]
  have e : (key32 (num s % L) == s) = decide (num s < L) := by
    have h0 := (num_key hs).1
    by_cases h : num s < L
    · rw [decide_eq_true h, Int.emod_eq_of_lt h0 h, key32_num hs]; simp
    · rw [decide_eq_false h]
      simp only [beq_eq_false_iff_ne, ne_eq]
      intro e
      have := num_mod (num s)
      rw [e] at this
      have := (mod_range (num s)).2
      omega
  rw [e]
  have hLL : decide (L < L) = false := by decide
  rw [hLL]
  simp [nought_eq]
end Go.Proofs.Ytillmeddkdcenaa
