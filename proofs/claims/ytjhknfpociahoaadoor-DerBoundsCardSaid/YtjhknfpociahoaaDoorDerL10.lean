import Derived.Test.YtjhknfpociahoaaDoorDerL9
namespace Go.Proofs.YtjhknfpociahoaaDoor
open Go Go.HW Go.RowKit
set_option linter.unusedVariables false
set_option linter.unusedSimpArgs false

/-! ### whole numbers are read -/
def stepU (a b : Int) : Int := (a * 256 + b) % 18446744073709551616
def stepI (a b : Int) : Int := IntKind.i64.wrap (a * 256 + b)
theorem wrap_I64 (x : Int) : I64 (IntKind.i64.wrap x) := by rw [IntKind.wrap_i64]; unfold I64; omega
theorem stepU_be (x : Int) : ∀ s m, (be s m).foldl stepU x % 18446744073709551616 = (x * ((256 ^ s : Nat) : Int) + ((m % 256 ^ s : Nat) : Int)) % 18446744073709551616
  | 0, m => by simp [be, Nat.mod_one]
  | s + 1, m => by
    rw [be, List.foldl_append, List.foldl_cons, List.foldl_nil]
    have ih := stepU_be x s (m / 256)
    unfold stepU
    have e : ((m % 256 ^ (s + 1) : Nat) : Int) = ((m % 256 : Nat) : Int) + 256 * ((m / 256 % 256 ^ s : Nat) : Int) := by
      rw [Nat.pow_succ, Nat.mul_comm (256 ^ s) 256, Nat.mod_mul]; omega
    have e2 : x * ((256 ^ (s + 1) : Nat) : Int) = 256 * (x * ((256 ^ s : Nat) : Int)) := by rw [show 256 ^ (s + 1) = 256 * 256 ^ s by rw [Nat.pow_succ, Nat.mul_comm], Int.natCast_mul, Int.mul_left_comm]; rfl
    rw [e, e2]
    unfold stepU at ih
    generalize (be s (m / 256)).foldl (fun a b => (a * 256 + b) % 18446744073709551616) x = F at *
    generalize x * ((256 ^ s : Nat) : Int) = X at *
    generalize ((m / 256 % 256 ^ s : Nat) : Int) = Y at *
    omega
theorem stepI_be (x : Int) : ∀ s m, IntKind.i64.wrap ((be s m).foldl stepI x) = IntKind.i64.wrap (x * ((256 ^ s : Nat) : Int) + ((m % 256 ^ s : Nat) : Int))
  | 0, m => by simp [be, Nat.mod_one]
  | s + 1, m => by
    rw [be, List.foldl_append, List.foldl_cons, List.foldl_nil]
    have ih := stepI_be x s (m / 256)
    unfold stepI
    have e : ((m % 256 ^ (s + 1) : Nat) : Int) = ((m % 256 : Nat) : Int) + 256 * ((m / 256 % 256 ^ s : Nat) : Int) := by
      rw [Nat.pow_succ, Nat.mul_comm (256 ^ s) 256, Nat.mod_mul]; omega
    have e2 : x * ((256 ^ (s + 1) : Nat) : Int) = 256 * (x * ((256 ^ s : Nat) : Int)) := by rw [show 256 ^ (s + 1) = 256 * 256 ^ s by rw [Nat.pow_succ, Nat.mul_comm], Int.natCast_mul, Int.mul_left_comm]; rfl
    rw [e, e2]
    unfold stepI at ih
    generalize (be s (m / 256)).foldl (fun a b => IntKind.i64.wrap (a * 256 + b)) x = F at *
    generalize x * ((256 ^ s : Nat) : Int) = X at *
    generalize ((m / 256 % 256 ^ s : Nat) : Int) = Y at *
    simp only [IntKind.wrap_i64] at *
    omega
theorem drop_cons {l : List Int} {i : Nat} (h : i < l.length) : l.drop i = l.getD i 0 :: l.drop (i + 1) := by
  rw [List.drop_eq_getElem_cons h]; simp [List.getElem?_eq_getElem h]
theorem take_getD {l : List Int} {i : Nat} (h : i < 8) : (l.take 8).getD i 0 = l.getD i 0 := by simp [List.getElem?_take, h]
theorem num_tail (a : List Int) (ha : U8L a) (hl : a.length ≤ 1048576) : ∀ (d i k : Nat) (x : Int), 1 ≤ i → i + d = (a.take 8).length → d < k → ref13_number.L0 a k x (i : Int) = some (((a.take 8).drop i).foldl stepU x)
  | 0, i, k, x, h1, h, hk => by
    obtain ⟨k, rfl⟩ : ∃ q, k = q + 1 := ⟨k - 1, by omega⟩
    have hlen := List.length_take (i := 8) (l := a)
    rw [List.drop_eq_nil_of_le (by omega), ref13_number.L0]
    by_cases c : (i : Int) < a.length
    · have c8 : ¬ (i : Int) < 8 := by omega
      simp [c, c8]
    · simp [c]
  | d + 1, i, k, x, h1, h, hk => by
    obtain ⟨k, rfl⟩ : ∃ q, k = q + 1 := ⟨k - 1, by omega⟩
    have hlen := List.length_take (i := 8) (l := a)
    rw [ref13_number.L0, drop_cons (by omega), List.foldl_cons, ← num_tail a ha hl d (i + 1) k _ (by omega) (by omega) (by omega), take_getD (by omega)]
    have c : (i : Int) < a.length := by omega
    have c8 : (i : Int) < 8 := by omega
    have c0 : ((i : Int) == 0) = false := by rw [beq_eq_false_iff_ne]; omega
    have e : IntKind.u64.wrap (IntKind.u64.wrap (x * 256) + IntKind.u64.wrap (a.getD i 0)) = stepU x (a.getD i 0) := by
      simp only [IntKind.wrap_u64]; unfold stepU; omega
    have hs := suc (show i < a.length by omega) hl
    simp only [c, c8, c0, decide_true, if_true, Option.bind_some, Bool.false_eq_true, if_false, nmE, Int.toNat_natCast, e, hs]
    rw [rq (by omega), rq trivial]
theorem reqTT {α : Type} (x : Option α) : req True x = x := if_pos trivial
def numS (a : List Int) : Int := match a.take 8 with
  | [] => 0
  | b :: r => IntKind.i64.wrap (r.foldl stepU (stepU (if 128 ≤ b then 72057594037927935 else 0) b))
theorem rnum_eq (a : List Int) (ha : U8L a) (hl : a.length ≤ 1048576) : ref13_number.f a = some (numS a) := by
  unfold ref13_number.f numS
  rw [show (8 : Int).toNat + 1 = 8 + 1 from rfl]
  cases a with
  | nil => rw [ref13_number.L0]; rfl
  | cons b r =>
    have hlen := List.length_take (i := 8) (l := b :: r)
    have hc : (b :: r).length = r.length + 1 := rfl
    have hb := ha b (by simp)
    have ht := num_tail (b :: r) ha hl (((b :: r).take 8).length - 1) 1 8 (stepU (if 128 ≤ b then 72057594037927935 else 0) b) (by omega) (by omega) (by omega)
    rw [ref13_number.L0]
    have c : (0 : Int) < ((b :: r).length : Int) := by omega
    have e : IntKind.u64.wrap (IntKind.u64.wrap ((if 128 ≤ b then 72057594037927935 else 0) * 256) + IntKind.u64.wrap b) = stepU (if 128 ≤ b then 72057594037927935 else 0) b := by
      simp only [IntKind.wrap_u64]; unfold stepU; split <;> omega
    simp only [c, show ((0 : Int) < 8) from by decide, decide_true, if_true, Option.bind_some, BEq.rfl, nmE, show (0 : Int).toNat = 0 from rfl, show (b :: r).getD 0 0 = b from rfl]
    simp only [Int.le_refl, reqTT, Option.bind_some, ite_some, decide_eq_true_eq, e, show IntKind.i64.wrap ((0 : Int) + 1) = ((1 : Nat) : Int) from rfl, ht]
    rfl
theorem or_step (x b : Int) (hx : I64 x) (hb : 0 ≤ b ∧ b ≤ 255) : ior .i64 (ishl .i64 x 8) b = stepI x b := by
  obtain ⟨hb0, hb1⟩ := hb
  unfold ior ishl stepI
  rw [show IntKind.i64.bits = 64 from rfl, show min (8 : Int).toNat 64 = 8 from rfl]
  have e1 : (BitVec.ofInt 64 (IntKind.i64.wrap (x * 2 ^ 8))).toNat = 256 * (x % 72057594037927936).toNat := by
    rw [BitVec.toNat_ofInt, IntKind.wrap_i64]; omega
  have e2 : (BitVec.ofInt 64 b).toNat = b.toNat := by rw [BitVec.toNat_ofInt]; omega
  have e3 : (BitVec.ofInt 64 (IntKind.i64.wrap (x * 2 ^ 8)) ||| BitVec.ofInt 64 b).toNat = 256 * (x % 72057594037927936).toNat + b.toNat := by
    rw [BitVec.toNat_or, e1, e2]
    have := Nat.two_pow_add_eq_or_of_lt (i := 8) (b := b.toNat) (by omega) (x % 72057594037927936).toNat
    rw [show (256 : Nat) = 2 ^ 8 from rfl, ← this]
  rw [e3, IntKind.wrap_i64, IntKind.wrap_i64]
  omega
theorem dnum_tail (t : Int) (c : List Int) (l : List Int) (hl : c.take (if 8 < t then 8 else t).toNat = l) (h8 : l.length ≤ 8) (hc : U8L c) : ∀ (d i k : Nat) (x : Int), 1 ≤ i → i + d = l.length → d < k → I64 x → der_value.L1 t c k (i : Int) x = some ((l.drop i).foldl stepI x)
  | 0, i, k, x, h1, h, hk, hx => by
    obtain ⟨k, rfl⟩ : ∃ q, k = q + 1 := ⟨k - 1, by omega⟩
    rw [List.drop_eq_nil_of_le (by omega), der_value.L1, hl]
    have c : ¬ (i : Int) < l.length := by omega
    simp [c]
  | d + 1, i, k, x, h1, h, hk, hx => by
    obtain ⟨k, rfl⟩ : ∃ q, k = q + 1 := ⟨k - 1, by omega⟩
    rw [der_value.L1, hl, drop_cons (by omega), List.foldl_cons, ← dnum_tail t c l hl h8 hc d (i + 1) k (stepI x (l.getD i 0)) (by omega) (by omega) (by omega) (show I64 (stepI x (l.getD i 0)) from wrap_I64 _)]
    have c' : (i : Int) < l.length := by omega
    have c0 : ((i : Int) == 0) = false := by rw [beq_eq_false_iff_ne]; omega
    have hu : U8L l := fun y hy => hc y (List.mem_of_mem_take (hl ▸ hy))
    have hb := u8_at hu i
    have hs := suc (show i < l.length by omega) (by omega)
    simp only [c', c0, decide_true, if_true, Option.bind_some, Bool.false_eq_true, if_false, nmE, Int.toNat_natCast, hs, w64 (n := l.getD i 0) (by omega) (by omega), or_step x _ hx hb, reqTT]
    exact rq (by omega)
def numD (l : List Int) : Int := match l with
  | [] => 0
  | b :: r => r.foldl stepI (IntKind.i8.wrap b)
theorem i8w (b : Int) (h0 : 0 ≤ b) (h1 : b ≤ 255) : IntKind.i8.wrap b = if 128 ≤ b then b - 256 else b := by
  have : IntKind.i8.wrap b = (b + 128) % 256 - 128 := by simp [IntKind.wrap, IntKind.bits, IntKind.signed]; omega
  rw [this]; split <;> omega
theorem dnum_eq (t : Int) (c : List Int) (l : List Int) (hl : c.take (if 8 < t then 8 else t).toNat = l) (h8 : l.length ≤ 8) (hc : U8L c) : der_value.L1 t c (l.length + 1) 0 0 = some (numD l) := by
  unfold numD
  cases l with
  | nil => rw [der_value.L1, hl]; simp
  | cons b r =>
    have hu : U8L (b :: r) := fun y hy => hc y (List.mem_of_mem_take (hl ▸ hy))
    have hb := hu b (by simp)
    have e8 := i8w b hb.1 hb.2
    have hI : I64 (IntKind.i8.wrap b) := by rw [e8]; unfold I64; split <;> omega
    have ht := dnum_tail t c (b :: r) hl h8 hc r.length 1 (r.length + 1) (IntKind.i8.wrap b) (by omega) (by simp; omega) (by omega) hI
    rw [der_value.L1, hl]
    have c' : (0 : Int) < ((b :: r).length : Int) := by simp
    simp only [c', decide_true, if_true, BEq.rfl, nmE, Option.bind_some, show (0 : Int).toNat = 0 from rfl, show (b :: r).getD 0 0 = b from rfl, show IntKind.i64.wrap ((0 : Int) + 1) = ((1 : Nat) : Int) from rfl, w64 hI.1 hI.2]
    rw [rq (by omega), reqTT]
    exact ht
theorem foldI_I64 : ∀ (r : List Int) (x : Int), I64 x → I64 (r.foldl stepI x)
  | [], x, h => h
  | b :: r, x, h => by rw [List.foldl_cons]; exact foldI_I64 r _ (wrap_I64 _)
theorem numD_I64 (l : List Int) (h : U8L l) : I64 (numD l) := by
  unfold numD
  cases l with
  | nil => unfold I64; simp
  | cons b r =>
    have hb := h b (by simp)
    refine foldI_I64 r _ ?_
    rw [i8w b hb.1 hb.2]; unfold I64; split <;> omega
theorem numS_whl {n : Int} (hn : I64 n) : numS (whl n) = n := by
  have hz := szN_le n
  have hf := fitsN hn
  unfold whl
  generalize szN n = s at *
  obtain ⟨q, rfl⟩ : ∃ q, s = q + 1 := ⟨s - 1, by omega⟩
  unfold numS
  rw [List.take_of_length_le (by rw [be_len]; omega), be_head]
  simp only
  have h1 := stepU_be (stepU (if (128 : Int) ≤ ((m64 n / 256 ^ q % 256 : Nat) : Int) then 72057594037927935 else 0) ((m64 n / 256 ^ q % 256 : Nat) : Int)) q (m64 n)
  have h2 := m64_mod n q (by omega)
  have h3 : ((m64 n / 256 ^ q % 256 : Nat) : Int) = (if n < 0 then n / ((256 ^ q : Nat) : Int) + 256 else n / ((256 ^ q : Nat) : Int)) := by
    unfold m64
    unfold fits at hf
    rcases (show q = 0 ∨ q = 1 ∨ q = 2 ∨ q = 3 ∨ q = 4 ∨ q = 5 ∨ q = 6 ∨ q = 7 by omega) with rfl | rfl | rfl | rfl | rfl | rfl | rfl | rfl <;> simp only [Nat.reducePow, Nat.reduceMul, Nat.reduceSub, Nat.reduceAdd, Int.reducePow, Nat.pow_zero] at * <;> split <;> omega
  rw [h2] at h1
  generalize hF : (be q (m64 n)).foldl stepU (stepU (if (128 : Int) ≤ ((m64 n / 256 ^ q % 256 : Nat) : Int) then 72057594037927935 else 0) ((m64 n / 256 ^ q % 256 : Nat) : Int)) = F at *
  rw [h3] at h1
  unfold stepU at h1
  unfold fits at hf
  rw [IntKind.wrap_i64]
  rcases (show q = 0 ∨ q = 1 ∨ q = 2 ∨ q = 3 ∨ q = 4 ∨ q = 5 ∨ q = 6 ∨ q = 7 by omega) with rfl | rfl | rfl | rfl | rfl | rfl | rfl | rfl <;> simp only [Nat.reducePow, Nat.reduceMul, Nat.reduceSub, Nat.reduceAdd, Int.reducePow, Nat.pow_zero] at * <;> (by_cases c : n < 0) <;> simp only [c, if_true, if_false] at h1 <;> split at h1 <;> omega
theorem numD_whl {n : Int} (hn : I64 n) : numD (whl n) = n := by
  have hz := szN_le n
  have hf := fitsN hn
  unfold whl
  generalize szN n = s at *
  obtain ⟨q, rfl⟩ : ∃ q, s = q + 1 := ⟨s - 1, by omega⟩
  unfold numD
  rw [be_head]
  simp only
  have hI : I64 (IntKind.i8.wrap ((m64 n / 256 ^ q % 256 : Nat) : Int)) := by
    rw [i8w _ (by omega) (by omega)]; unfold I64; split <;> omega
  have h1 := stepI_be (IntKind.i8.wrap ((m64 n / 256 ^ q % 256 : Nat) : Int)) q (m64 n)
  have h0 := foldI_I64 (be q (m64 n)) _ hI
  rw [w64 h0.1 h0.2] at h1
  rw [h1]
  have h2 := m64_mod n q (by omega)
  have h3 : ((m64 n / 256 ^ q % 256 : Nat) : Int) = (if n < 0 then n / ((256 ^ q : Nat) : Int) + 256 else n / ((256 ^ q : Nat) : Int)) := by
    unfold m64
    unfold fits at hf
    rcases (show q = 0 ∨ q = 1 ∨ q = 2 ∨ q = 3 ∨ q = 4 ∨ q = 5 ∨ q = 6 ∨ q = 7 by omega) with rfl | rfl | rfl | rfl | rfl | rfl | rfl | rfl <;> simp only [Nat.reducePow, Nat.reduceMul, Nat.reduceSub, Nat.reduceAdd, Int.reducePow, Nat.pow_zero] at * <;> split <;> omega
  rw [i8w _ (by omega) (by omega), h2, h3, IntKind.wrap_i64]
  unfold fits at hf
  clear h1 h0 hI h3 h2
  obtain ⟨hn0, hn1⟩ := hn
  rcases (show q = 0 ∨ q = 1 ∨ q = 2 ∨ q = 3 ∨ q = 4 ∨ q = 5 ∨ q = 6 ∨ q = 7 by omega) with rfl | rfl | rfl | rfl | rfl | rfl | rfl | rfl <;> simp only [Nat.reducePow, Nat.reduceMul, Nat.reduceSub, Nat.reduceAdd, Int.reducePow, Nat.pow_zero] at * <;> (by_cases c : n < 0) <;> simp only [c, if_true, if_false] <;> split <;> omega
end Go.Proofs.YtjhknfpociahoaaDoor
