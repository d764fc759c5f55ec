import Derived.Test.YtlpodhejgcmbpaaShConst
namespace Go.Proofs.Ytlpodhejgcmbpaa
open Go Go.HW Go.RowKit
set_option linter.unusedVariables false
set_option linter.unusedSimpArgs false

/-! ### words out of bytes -/
theorem or_byte {a c : Int} (h0 : 0 ≤ c) (h1 : c ≤ 255) : ior .u64 (IntKind.u64.wrap (a * 256)) c = IntKind.u64.wrap (IntKind.u64.wrap (a * 256) + c) := by
  obtain ⟨n, rfl⟩ := Int.eq_ofNat_of_zero_le h0
  have hm : ∃ m : Nat, m < 2 ^ 56 ∧ IntKind.u64.wrap (a * 256) = ((m * 256 : Nat) : Int) := by
    refine ⟨(a % 72057594037927936).toNat, by omega, ?_⟩
    rw [IntKind.wrap_u64]; omega
  obtain ⟨m, hm, e⟩ := hm
  rw [e]
  unfold ior
  rw [show IntKind.u64.bits = 64 from rfl, BitVec.ofInt_natCast, BitVec.ofInt_natCast, BitVec.toNat_or, BitVec.toNat_ofNat, BitVec.toNat_ofNat, Nat.mod_eq_of_lt (by omega), Nat.mod_eq_of_lt (by omega)]
  have h2 : m * 256 ||| n = m * 256 + n := by
    have := Nat.shiftLeft_add_eq_or_of_lt (show n < 2 ^ 8 by omega) m
    rw [Nat.shiftLeft_eq] at this
    exact this.symm
  rw [h2]; congr 1
theorem shl8 (v : Int) : ishl .u64 v 8 = IntKind.u64.wrap (v * 256) := rfl
def stepR (b : List Int) (p : Nat) (w : List Int) (i : Nat) : List Int := w.set (i / 8) (IntKind.u64.wrap (IntKind.u64.wrap (w.getD (i / 8) 0 * 256) + IntKind.u64.wrap (b.getD (p + i) 0)))
def foldR (b : List Int) (p : Nat) : Nat → Nat → List Int → List Int
  | 0, _, w => w
  | n + 1, i, w => foldR b p n (i + 1) (stepR b p w i)
theorem foldR_add (b : List Int) (p : Nat) : ∀ (n m i : Nat) (w : List Int), foldR b p (n + m) i w = foldR b p m (i + n) (foldR b p n i w)
  | 0, m, i, w => by rw [Nat.zero_add]; rfl
  | n + 1, m, i, w => by
    rw [show n + 1 + m = (n + m) + 1 by omega, foldR, foldR_add b p n m (i + 1), foldR, show i + 1 + n = i + (n + 1) by omega]
theorem foldR_len (b : List Int) (p : Nat) : ∀ (n i : Nat) (w : List Int), (foldR b p n i w).length = w.length
  | 0, _, _ => rfl
  | n + 1, i, w => by rw [foldR, foldR_len b p n]; unfold stepR; rw [List.length_set]
theorem rload {b : List Int} {p : Nat} (hp : p + 128 ≤ b.length) (hb : b.length ≤ 1000000) : ∀ (m i k : Nat) (w : List Int), 128 - i ≤ m → m < k → i ≤ 128 → ref05_Begun__Sum.L3 b (p : Int) k (i : Int) w = some (foldR b p (128 - i) i w)
  | m, i, 0, w, _, hk, _ => by omega
  | m, i, k + 1, w, hm, hk, hi => by
    unfold ref05_Begun__Sum.L3
    by_cases c : i < 128
    · have e1 : Int.tdiv (i : Int) 8 = ((i / 8 : Nat) : Int) := td i 8
      rw [if_pos (by simp; omega), e1, w64 (n := ((i / 8 : Nat) : Int)) (by omega) (by omega), w64 (n := (p : Int) + (i : Int)) (by omega) (by omega), w64 (n := (i : Int) + 1) (by omega) (by omega)]
      simp only [nmE, Int.toNat_natCast]
      rw [rq (by omega), rq (by omega), rq (by omega), rq (by omega), show ((p : Int) + (i : Int)).toNat = p + i by omega, show (i : Int) + 1 = ((i + 1 : Nat) : Int) by omega, rload hp hb (m - 1) (i + 1) k _ (by omega) (by omega) (by omega), show 128 - i = (128 - (i + 1)) + 1 by omega, foldR]
      rfl
    · rw [if_neg (by simp; omega), show 128 - i = 0 by omega]; rfl
theorem cinner {b t : List Int} {p x : Nat} (hx : x < 16) (hl : t.length = 8) (hg : ∀ j, j < 8 → t.getD j 0 = b.getD (p + (8 * x + j)) 0) (hu : ∀ j, j < 8 → 0 ≤ t.getD j 0 ∧ t.getD j 0 ≤ 255) : ∀ (m j k : Nat) (w : List Int), 8 - j ≤ m → m < k → j ≤ 8 → sha_press.L1 (x : Int) t k (j : Int) w = some (foldR b p (8 - j) (8 * x + j) w)
  | m, j, 0, w, _, hk, _ => by omega
  | m, j, k + 1, w, hm, hk, hj => by
    unfold sha_press.L1
    by_cases c : j < 8
    · rw [if_pos (by simp; omega), w64 (n := (j : Int) + 1) (by omega) (by omega)]
      simp only [nmE, Int.toNat_natCast]
      have hb := hu j c
      rw [rq (by omega), rq (by omega), rq (by omega), rq (by omega), shl8, wu64 (n := t.getD j 0) (by omega) (by omega), or_byte hb.1 hb.2, show (j : Int) + 1 = ((j + 1 : Nat) : Int) by omega, cinner hx hl hg hu (m - 1) (j + 1) k _ (by omega) (by omega) (by omega), show 8 - j = (8 - (j + 1)) + 1 by omega, foldR]
      congr 2
      unfold stepR
      rw [← hg j c, wu64 (n := t.getD j 0) (by omega) (by omega), show (8 * x + j) / 8 = x by omega]
    · rw [if_neg (by simp; omega), show 8 - j = 0 by omega]; rfl
theorem couter {b : List Int} {p : Nat} (hp : p + 128 ≤ b.length) (hu : U8L b) : ∀ (m x k : Nat) (w : List Int), 16 - x ≤ m → m < k → x ≤ 16 → sha_press.L0 ((b.drop p).take 128) k (x : Int) w = some (foldR b p (128 - 8 * x) (8 * x) w)
  | m, x, 0, w, _, hk, _ => by omega
  | m, x, k + 1, w, hm, hk, hx => by
    unfold sha_press.L0
    by_cases c : x < 16
    · have hlen : ((b.drop p).take 128).length = 128 := by rw [List.length_take, List.length_drop]; omega
      rw [if_pos (by simp; omega), w64 (n := 8 * (x : Int)) (by omega) (by omega), w64 (n := 8 * (x : Int) + 8) (by omega) (by omega), w64 (n := (x : Int) + 1) (by omega) (by omega)]
      simp only [nmE]
      rw [rq (by omega), rq (by omega), rq (by omega), show (8 * (x : Int)).toNat = 8 * x by omega, show (8 * (x : Int) + 8).toNat - 8 * x = 8 by omega]
      have hl : ((((b.drop p).take 128).drop (8 * x)).take 8).length = 8 := by rw [List.length_take, List.length_drop, hlen]; omega
      have hg : ∀ j, j < 8 → ((((b.drop p).take 128).drop (8 * x)).take 8).getD j 0 = b.getD (p + (8 * x + j)) 0 := fun j hj => by
        rw [List.getD_eq_getElem?_getD, List.getD_eq_getElem?_getD, List.getElem?_take_of_lt hj, List.getElem?_drop, List.getElem?_take_of_lt (by omega), List.getElem?_drop]
      have hb : ∀ j, j < 8 → 0 ≤ ((((b.drop p).take 128).drop (8 * x)).take 8).getD j 0 ∧ ((((b.drop p).take 128).drop (8 * x)).take 8).getD j 0 ≤ 255 := fun j hj => by
        rw [hg j hj, List.getD_eq_getElem?_getD, List.getElem?_eq_getElem (by omega)]
        exact hu _ (List.getElem_mem _)
      rw [hl, show ((8 : Nat) : Int).toNat + 1 = 9 from rfl, show sha_press.L1 (x : Int) ((((b.drop p).take 128).drop (8 * x)).take 8) 9 0 w = _ from cinner c hl hg hb 8 0 9 w (by omega) (by omega) (by omega), Option.bind_some, show (x : Int) + 1 = ((x + 1 : Nat) : Int) by omega, couter hp hu (m - 1) (x + 1) k _ (by omega) (by omega) (by omega),
        show 128 - 8 * x = 8 + (128 - 8 * (x + 1)) by omega, foldR_add, show 8 * x + 8 = 8 * (x + 1) by omega]
      rfl
    · rw [if_neg (by simp; omega), show 128 - 8 * x = 0 by omega]; rfl
theorem press_eq {b : List Int} {p : Nat} (hp : p + 128 ≤ b.length) (hb : b.length ≤ 1000000) (hu : U8L b) {h : List Int} (hh : h.length = 8) :
    ∃ a c v z, sha_press.f h ((b.drop p).take 128) TAB = some z ∧ z.length = 8 ∧ ref05_Begun__Sum.L3 b (p : Int) 129 0 (List.replicate 80 0) = some a ∧ ref05_Begun__Sum.L4 65 16 a = some c ∧ ref05_Begun__Sum.L5 (STL, KL) c 81 0 h = some v ∧ ref05_Begun__Sum.L6 v 9 0 h = some z := by
  have e1 := rload hp hb 128 0 129 (List.replicate 80 0) (by omega) (by omega) (by omega)
  have e2 := couter hp hu 16 0 17 (List.replicate 80 0) (by omega) (by omega) (by omega)
  obtain ⟨c, e3, l3⟩ := sched_tot 64 16 65 (foldR b p 128 0 (List.replicate 80 0)) (by omega) (by omega) (by omega) (by omega) (by rw [foldR_len, List.length_replicate])
  obtain ⟨v, e4, l4⟩ := rounds_tot c 80 0 81 h (by omega) (by omega) (by omega) hh
  obtain ⟨z, e5, l5⟩ := fin_tot v 8 0 9 h (by omega) (by omega) (by omega) hh
  refine ⟨_, c, v, z, ?_, l5, e1, e3, e4, e5⟩
  unfold sha_press.f
  rw [show sha_press.L0 ((b.drop p).take 128) 17 0 (List.replicate 80 0) = _ from e2, Option.bind_some, sched_eq, show ref05_Begun__Sum.L4 65 16 (foldR b p (128 - 8 * 0) (8 * 0) (List.replicate 80 0)) = some c from e3, Option.bind_some, rounds_eq, show ref05_Begun__Sum.L5 (STL, KL) c 81 0 h = some v from e4, Option.bind_some, fin_eq, show ref05_Begun__Sum.L6 v 9 0 h = some z from e5]; rfl
theorem blocks {b : List Int} {q : Nat} (hq : b.length = 128 * q) (hb : b.length ≤ 1000000) (hu : U8L b) : ∀ (m i k k' : Nat) (h : List Int), q - i ≤ m → m < k → m < k' → i ≤ q → h.length = 8 →
    ∃ z, sha_Sum.L4 TAB k (b.drop (128 * i)) h = some z ∧ ref05_Begun__Sum.L2 (STL, KL) b k' ((128 * i : Nat) : Int) h = some z ∧ z.length = 8
  | m, i, 0, k', h, _, hk, _, _, _ => by omega
  | m, i, k + 1, 0, h, _, _, hk, _, _ => by omega
  | m, i, k + 1, k' + 1, h, hm, hk, hk', hi, hh => by
    unfold sha_Sum.L4 ref05_Begun__Sum.L2
    have hl : (b.drop (128 * i)).length = 128 * (q - i) := by rw [List.length_drop]; omega
    by_cases c : i < q
    · obtain ⟨a, cc, v, z, e1, l1, e2, e3, e4, e5⟩ := press_eq (b := b) (p := 128 * i) (by omega) hb hu hh
      obtain ⟨y, g1, g2, g3⟩ := blocks hq hb hu (m - 1) (i + 1) k k' z (by omega) (by omega) (by omega) (by omega) l1
      refine ⟨y, ?_, ?_, g3⟩
      · rw [if_pos (by rw [hl]; simp; omega), rq (by rw [hl]; omega), show (128 : Int).toNat = 128 from rfl, e1, Option.bind_some, rq l1, List.drop_drop, show 128 * i + 128 = 128 * (i + 1) by omega, g1]
      · rw [if_pos (by simp; omega), e2, Option.bind_some, e3, Option.bind_some, e4, Option.bind_some, e5, Option.bind_some, w64 (n := ((128 * i : Nat) : Int) + 128) (by omega) (by omega), show ((128 * i : Nat) : Int) + 128 = ((128 * (i + 1) : Nat) : Int) by omega, g2]
    · refine ⟨h, ?_, ?_, hh⟩
      · rw [if_neg (by rw [hl]; simp; omega)]
      · rw [if_neg (by simp; omega)]
theorem out_eq (h : List Int) : ∀ (m i k : Nat) (y : List Int), 64 - i ≤ m → m < k → i ≤ 64 → y.length = 64 → ∃ z, sha_Sum.L5 h k (i : Int) y = some z ∧ ref05_Begun__Sum.L7 h k (i : Int) y = some z ∧ z.length = 64
  | m, i, 0, y, _, hk, _, _ => by omega
  | m, i, k + 1, y, hm, hk, hi, hy => by
    unfold sha_Sum.L5 ref05_Begun__Sum.L7
    by_cases c : i < 64
    · have e1 : Int.tdiv (i : Int) 8 = ((i / 8 : Nat) : Int) := td i 8
      have e2 : Int.tmod (i : Int) 8 = ((i % 8 : Nat) : Int) := tm i 8
      rw [if_pos (by simp; omega), if_pos (by simp; omega), e1, e2, w64 (n := ((i / 8 : Nat) : Int)) (by omega) (by omega), w64 (n := 8 * ((i % 8 : Nat) : Int)) (by omega) (by omega), w64 (n := 56 - 8 * ((i % 8 : Nat) : Int)) (by omega) (by omega), w64 (n := (i : Int) + 1) (by omega) (by omega)]
      simp only [nmE, Int.toNat_natCast]
      rw [wu64 (n := 56 - 8 * ((i % 8 : Nat) : Int)) (by omega) (by omega), rq (by omega), rq (by omega), rq (by omega), rq (by omega), rq (by omega), rq (by omega), rq (by omega), rq (by omega), rq (by omega), rq (by omega)]
      exact out_eq h (m - 1) (i + 1) k _ (by omega) (by omega) (by omega) (by rw [List.length_set]; exact hy)
    · rw [if_neg (by simp; omega), if_neg (by simp; omega)]
      exact ⟨y, rfl, rfl, hy⟩

/-! ### what comes behind the message -/
theorem pad_eq : ∀ (k : Nat) (y : List Int), sha_Sum.L1 k y = ref05_Begun__Sum.L0 k y
  | 0, _ => rfl
  | k + 1, y => by unfold sha_Sum.L1 ref05_Begun__Sum.L0; simp only [pad_eq k]
theorem pad_tot : ∀ (m k : Nat) (y : List Int), (240 - y.length % 128) % 128 ≤ m → m < k → y.length + m ≤ 100000 → ∃ n, n ≤ m ∧ ref05_Begun__Sum.L0 k y = some (y ++ List.replicate n 0) ∧ (y.length + n) % 128 = 112
  | m, 0, y, _, hk, _ => by omega
  | m, k + 1, y, hm, hk, hl => by
    unfold ref05_Begun__Sum.L0
    have e1 : Int.tmod (y.length : Int) 128 = ((y.length % 128 : Nat) : Int) := tm y.length 128
    rw [e1]
    by_cases c : y.length % 128 = 112
    · rw [c, if_neg (by decide)]
      exact ⟨0, by omega, by simp, by omega⟩
    · rw [if_pos (by rw [bne_iff_ne]; omega), rq (by simp; omega)]
      obtain ⟨n, h1, h2, h3⟩ := pad_tot (m - 1) k (y ++ [0]) (by rw [List.length_append]; simp; omega) (by omega) (by rw [List.length_append]; simp; omega)
      refine ⟨n + 1, by omega, ?_, ?_⟩
      · rw [h2, List.append_assoc]; rfl
      · rw [List.length_append] at h3; simp at h3; omega
def by8 (t : Int) : List Int := [56, 48, 40, 32, 24, 16, 8, 0].map fun s => IntKind.u8.wrap (ishr .u64 t s)
theorem by8_drop (t : Int) : ∀ i, i < 8 → (by8 t).drop i = IntKind.u8.wrap (ishr .u64 t (56 - 8 * (i : Int))) :: (by8 t).drop (i + 1)
  | 0, _ => rfl | 1, _ => rfl | 2, _ => rfl | 3, _ => rfl | 4, _ => rfl | 5, _ => rfl | 6, _ => rfl | 7, _ => rfl
  | i + 8, h => by omega
theorem cby {a c x t : Int} (ht : [a, c].getD x.toNat 0 = t) : ∀ (m i k : Nat) (y : List Int), 8 - i ≤ m → m < k → i ≤ 8 → y.length + m ≤ 200000 → sha_Sum.L3 a c x k y (i : Int) = some (y ++ (by8 t).drop i)
  | m, i, 0, y, _, hk, _, _ => by omega
  | m, i, k + 1, y, hm, hk, hi, hy => by
    unfold sha_Sum.L3
    by_cases h : i < 8
    · rw [if_pos (by simp; omega), w64 (n := 8 * (i : Int)) (by omega) (by omega), w64 (n := 56 - 8 * (i : Int)) (by omega) (by omega), w64 (n := (i : Int) + 1) (by omega) (by omega), ht]
      simp only [nmE]
      rw [rq (by omega), rq (by simp; omega), show (i : Int) + 1 = ((i + 1 : Nat) : Int) by omega, cby ht (m - 1) (i + 1) k _ (by omega) (by omega) (by omega) (by rw [List.length_append]; simp; omega), by8_drop t i h, List.append_assoc]
      rfl
    · rw [if_neg (by simp; omega), show i = 8 by omega]
      simp [by8]
theorem cby2 (a c : Int) (y : List Int) (hy : y.length ≤ 100000) : sha_Sum.L2 a c 3 y 0 = some (y ++ by8 a ++ by8 c) := by
  have e1 : sha_Sum.L3 a c 0 9 y 0 = some (y ++ by8 a) := cby (x := 0) (t := a) rfl 8 0 9 y (by omega) (by omega) (by omega) (by omega)
  have e2 : sha_Sum.L3 a c 1 9 (y ++ by8 a) 0 = some (y ++ by8 a ++ by8 c) := cby (x := 1) (t := c) rfl 8 0 9 _ (by omega) (by omega) (by omega) (by simp [by8]; omega)
  unfold sha_Sum.L2
  rw [if_pos (by simp), rq (by decide), rq (by simp), e1, Option.bind_some, show IntKind.i64.wrap (0 + 1) = 1 from rfl]
  unfold sha_Sum.L2
  rw [if_pos (by simp), rq (by decide), rq (by simp), e2, Option.bind_some, show IntKind.i64.wrap (1 + 1) = 2 from rfl]
  unfold sha_Sum.L2
  rw [if_neg (by simp)]
theorem rby (t : Int) : ∀ (m n k : Nat) (y : List Int), 8 - n ≤ m → m < k → n ≤ 8 → y.length + m ≤ 200000 → ref05_Begun__Sum.L1 t k y (7 - (n : Int)) = some (y ++ (by8 t).drop n)
  | m, n, 0, y, _, hk, _, _ => by omega
  | m, n, k + 1, y, hm, hk, hn, hy => by
    unfold ref05_Begun__Sum.L1
    by_cases h : n < 8
    · rw [if_pos (by simp; omega), w64 (n := 8 * (7 - (n : Int))) (by omega) (by omega), wu64 (n := 8 * (7 - (n : Int))) (by omega) (by omega), w64 (n := 7 - (n : Int) - 1) (by omega) (by omega)]
      simp only [nmE]
      rw [rq (by omega), rq (by simp; omega), show 7 - (n : Int) - 1 = 7 - ((n + 1 : Nat) : Int) by omega, rby t (m - 1) (n + 1) k _ (by omega) (by omega) (by omega) (by rw [List.length_append]; simp; omega), by8_drop t n h, List.append_assoc, show 8 * (7 - (n : Int)) = 56 - 8 * (n : Int) by omega]
      rfl
    · rw [if_neg (by simp; omega), show n = 8 by omega]
      simp [by8]
theorem flat (ps : List (List Int)) : ∀ (m i k : Nat) (y : List Int), ps.length - i ≤ m → m < k → i ≤ ps.length → ps.length ≤ 1000 → y.length + ((ps.drop i).flatten).length ≤ 100000 → sha_Sum.L0 ps k y (i : Int) = some (y ++ (ps.drop i).flatten)
  | m, i, 0, y, _, hk, _, _, _ => by omega
  | m, i, k + 1, y, hm, hk, hi, hp, hy => by
    unfold sha_Sum.L0
    by_cases h : i < ps.length
    · have hd : ps.drop i = ps.getD i [] :: ps.drop (i + 1) := by
        rw [List.drop_eq_getElem_cons h]; simp [List.getElem?_eq_getElem h]
      rw [hd, List.flatten_cons, List.length_append] at hy
      rw [if_pos (by simp; omega), w64 (n := (i : Int) + 1) (by omega) (by omega)]
      simp only [nmE, Int.toNat_natCast]
      rw [rq (by omega), rq (by omega), rq (by omega), show (i : Int) + 1 = ((i + 1 : Nat) : Int) by omega, flat ps (m - 1) (i + 1) k _ (by omega) (by omega) (by omega) hp (by rw [List.length_append]; omega), hd, List.flatten_cons, List.append_assoc]
    · rw [if_neg (by simp; omega), List.drop_eq_nil_of_le (by omega)]
      simp
theorem u8w (x : Int) : 0 ≤ IntKind.u8.wrap x ∧ IntKind.u8.wrap x ≤ 255 := by
  rw [IntKind.wrap_u8]; omega
theorem by8_u8 (t : Int) : U8L (by8 t) := fun x hx => by
  obtain ⟨s, _, rfl⟩ := List.mem_map.1 hx
  exact u8w _
theorem by8_zero : by8 0 = List.replicate 8 0 := by decide
theorem sums {m : List Int} (hu : U8L m) (hm : m.length ≤ 2000) : ∃ d, d.length = 64 ∧ ref05_Sum.f m = some d ∧ ∀ ps : List (List Int), ps.flatten = m → ps.length ≤ 1000 → sha_Sum.f ps = some d := by
  obtain ⟨n, hn, e1, hmod⟩ := pad_tot 127 200 (m ++ [128]) (by omega) (by omega) (by rw [List.length_append]; simp; omega)
  rw [List.length_append, List.length_singleton] at hmod
  let p := m ++ [128] ++ List.replicate n 0
  have hp' : (m ++ [(128 : Int)] ++ List.replicate n (0 : Int)).length = m.length + 1 + n := by simp; omega
  have hp : p.length = m.length + 1 + n := hp'
  let b := p ++ by8 0 ++ by8 (8 * (m.length : Int))
  have hbl : b.length = m.length + 1 + n + 16 := by simp [b, hp, by8]
  have hbu : U8L b := fun x hx => by
    simp only [b, p, List.mem_append, List.mem_singleton] at hx
    rcases hx with (((hx | hx) | hx) | hx) | hx
    · exact hu x hx
    · omega
    · have := List.eq_of_mem_replicate hx; omega
    · exact by8_u8 _ x hx
    · exact by8_u8 _ x hx
  obtain ⟨z, g1, g2, g3⟩ := blocks (b := b) (q := b.length / 128) (by omega) (by omega) hbu (b.length / 128) 0 100000 100000 STL (by omega) (by omega) (by omega) (by omega) stl_len
  obtain ⟨d, f1, f2, f3⟩ := out_eq z 64 0 65 (List.replicate 64 0) (by omega) (by omega) (by omega) (by rw [List.length_replicate])
  rw [Nat.mul_zero, List.drop_zero] at g1
  refine ⟨d, f3, ?_, fun ps hps hpl => ?_⟩
  · unfold ref05_Sum.f
    rw [begin_eq, Option.bind_some]
    unfold ref05_Begun__Sum.f
    rw [rq (by omega), rq (by simp; omega), e1, Option.bind_some, rq (by rw [hp']; omega)]
    simp only [nmE]
    rw [wu64 (n := (m.length : Int)) (by omega) (by omega), wu64 (n := (m.length : Int) * 8) (by omega) (by omega), Int.mul_comm (m.length : Int) 8]
    have e2 := rby (8 * (m.length : Int)) 8 0 9 (p ++ List.replicate 8 0) (by omega) (by omega) (by omega) (by rw [List.length_append, hp, List.length_replicate]; omega)
    rw [show ref05_Begun__Sum.L1 (8 * (m.length : Int)) 9 (m ++ [128] ++ List.replicate n 0 ++ List.replicate 8 0) 7 = _ from e2, Option.bind_some, List.drop_zero, ← by8_zero, rq (show (Begun.start (STL, KL)).length = 8 from stl_len)]
    rw [show ref05_Begun__Sum.L2 (STL, KL) (p ++ by8 0 ++ by8 (8 * (m.length : Int))) 100000 0 (Begun.start (STL, KL)) = some z from g2, Option.bind_some, show ref05_Begun__Sum.L7 z 65 0 (List.replicate 64 0) = some d from f2, Option.bind_some, Option.bind_some, rq f3]
  · unfold sha_Sum.f
    have e3 := flat ps ps.length 0 (ps.length + 1) [] (by omega) (by omega) (by omega) hpl (by rw [List.drop_zero, hps]; simp; omega)
    rw [List.drop_zero, hps, List.nil_append] at e3
    rw [all_eq, Option.bind_some, Int.toNat_natCast, show sha_Sum.L0 ps (ps.length + 1) [] 0 = some m from e3, Option.bind_some, rq (by simp; omega), pad_eq, e1, Option.bind_some, wu64 (n := (m.length : Int)) (by omega) (by omega), rq (by omega), rq (by omega), rq (by decide), rq (by decide)]
    simp only [nmE]
    have h1 : mul64h (m.length : Int) 8 = 0 := by
      unfold mul64h
      rw [Int.toNat_natCast, show (8 : Int).toNat = 8 from rfl, Nat.div_eq_of_lt (by omega)]; rfl
    have h2 : mul64l (m.length : Int) 8 = 8 * (m.length : Int) := by
      unfold mul64l
      rw [Int.toNat_natCast, show (8 : Int).toNat = 8 from rfl, Nat.mod_eq_of_lt (by omega)]; omega
    rw [h1, h2, show (([0, 8 * (m.length : Int)] : List Int).length : Int).toNat + 1 = 3 from rfl, cby2 0 _ _ (by rw [hp']; omega), Option.bind_some, List.drop_zero, show TAB.take 8 = STL by decide]
    rw [show sha_Sum.L4 TAB 100000 (m ++ [128] ++ List.replicate n 0 ++ by8 0 ++ by8 (8 * (m.length : Int))) STL = some z from g1, Option.bind_some, show sha_Sum.L5 z 65 0 (List.replicate 64 0) = some d from f1]; rfl
theorem cut_loop (c : List Int) : ∀ (m i k : Nat) (y : List (List Int)) (r : List Int), c.length - i ≤ m → m < k → i ≤ c.length → c.length ≤ 20 → y.length + m ≤ 1000 → r.length ≤ 2000 → ∃ ps r', law05_ShaSums.L0 c k y r (i : Int) = some (y ++ ps, r') ∧ ps.flatten ++ r' = r ∧ ps.length ≤ m
  | m, i, 0, y, r, _, hk, _, _, _, _ => by omega
  | m, i, k + 1, y, r, hm, hk, hi, hc, hy, hr => by
    unfold law05_ShaSums.L0
    by_cases h : i < c.length
    · generalize hv : c.getD i 0 = v
      have a1 := Int.lt_tmod_of_pos v (show (0 : Int) < (r.length : Int) + 1 by omega)
      have a2 := Int.tmod_lt_of_pos v (show (0 : Int) < (r.length : Int) + 1 by omega)
      generalize ht : Int.tmod v ((r.length : Int) + 1) = t at a1 a2
      have b1 := Int.tmod_nonneg ((r.length : Int) + 1) (show 0 ≤ t + (r.length : Int) + 1 by omega)
      have b2 := Int.tmod_lt_of_pos (t + (r.length : Int) + 1) (show (0 : Int) < (r.length : Int) + 1 by omega)
      rw [if_pos (by simp; omega), w64 (n := (r.length : Int) + 1) (by omega) (by omega), w64 (n := (i : Int) + 1) (by omega) (by omega)]
      simp only [nmE, Int.toNat_natCast, hv, ht]
      rw [w64 (n := t + (r.length : Int)) (by omega) (by omega), w64 (n := t + (r.length : Int) + 1) (by omega) (by omega)]
      generalize Int.tmod (t + (r.length : Int) + 1) ((r.length : Int) + 1) = u at b1 b2
      rw [rq (by omega), rq (by omega), rq (by omega), rq (by omega), rq (by omega), rq (by simp; omega), show (i : Int) + 1 = ((i + 1 : Nat) : Int) by omega]
      obtain ⟨ps, r', e1, e2, e3⟩ := cut_loop c (m - 1) (i + 1) k (y ++ [r.take u.toNat]) (r.drop u.toNat) (by omega) (by omega) (by omega) hc (by rw [List.length_append]; simp; omega) (by rw [List.length_drop]; omega)
      refine ⟨r.take u.toNat :: ps, r', ?_, ?_, ?_⟩
      · rw [e1, List.append_assoc]; rfl
      · rw [List.flatten_cons, List.append_assoc, e2, List.take_append_drop]
      · rw [List.length_cons]; omega
    · rw [if_neg (by simp; omega)]
      exact ⟨[], r, by simp, by simp, by simp⟩
theorem ShaSums_law {m c : List Int} (hu : ∀ x ∈ m, 0 ≤ x ∧ x ≤ 255) (hc : ∀ x ∈ c, -9223372036854775808 ≤ x ∧ x ≤ 9223372036854775807) : law05_ShaSums.f m c = some true := by
  unfold law05_ShaSums.f
  by_cases h1 : 2000 < m.length
  · rw [if_pos (by simp; omega), known_eq]; rfl
  · by_cases h2 : 20 < c.length
    · rw [if_neg (by simp; omega), Option.bind_some, if_pos (by simp; omega), known_eq]; rfl
    · rw [if_neg (by simp; omega), Option.bind_some, if_neg (by simp; omega)]
      obtain ⟨ps, r, e1, e2, e3⟩ := cut_loop c c.length 0 (c.length + 1) [] m (by omega) (by omega) (by omega) (by omega) (by simp; omega) (by omega)
      rw [Int.toNat_natCast, show law05_ShaSums.L0 c (c.length + 1) [] m 0 = some ([] ++ ps, r) from e1, Option.bind_some, List.nil_append]
      obtain ⟨d, l1, d1, d2⟩ := sums hu (by omega)
      have f1 := d2 (ps ++ [r]) (by rw [List.flatten_append]; simpa using e2) (by rw [List.length_append]; simp; omega)
      have f2 := d2 [m] (by simp) (by simp)
      simp only
      rw [rq (by simp; omega), f1, Option.bind_some, rq l1, d1, Option.bind_some, rq l1, f2, known_eq]
      simp [l1, req]
end Go.Proofs.Ytlpodhejgcmbpaa
