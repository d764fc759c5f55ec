import Derived.Test.YtjhknfpociahoaaDoorDerL11
namespace Go.Proofs.YtjhknfpociahoaaDoor
open Go Go.HW Go.RowKit
set_option linter.unusedVariables false
set_option linter.unusedSimpArgs false

/-! ### a value's kind, of its first byte -/
def tblK (b : Int) : Int := if b = 1 then 1 else if b = 2 then 2 else if b = 3 then 3 else if b = 4 then 4 else if b = 6 then 5 else if b = 12 then 6 else if b = 24 then 10 else if b = 48 then 7 else if b = 49 then 9 else if b = 160 then 8 else 0
def kOf (b : Int) : Int := if 160 ≤ b ∧ b ≤ 190 then 8 else tblK b
def nOf (b : Int) : Int := if 160 ≤ b ∧ b ≤ 190 then b - 160 else 0
theorem rkind_one (a : List Int) (h : 0 < a.length) : ∀ (k : Nat) (x y : Int), ref13_read.L0 a k x y = ref13_read.L0 [a.getD 0 0] k x y
  | 0, x, y => rfl
  | k + 1, x, y => by
    have h1 : (0 : Int) < (a.length : Int) := by omega
    have h2 : (0 : Int) < (([a.getD 0 0] : List Int).length : Int) := by simp
    have e : ([a.getD 0 0] : List Int).getD 0 0 = a.getD 0 0 := rfl
    rw [ref13_read.L0, ref13_read.L0, rtag_eq]
    simp only [Option.bind_some, nmE, show (0 : Int).toNat = 0 from rfl, e, rkind_one a h k]
    rw [rq h1, rq h2]
theorem rkind_all : ∀ b : Fin 256, ref13_read.L0 [(b.val : Int)] 11 1 0 = some (tblK (b.val : Int)) := by decide +kernel
theorem rkind (a : List Int) (ha : U8L a) (h : 0 < a.length) : ref13_read.L0 a 11 1 0 = some (tblK (a.getD 0 0)) := by
  have hb := u8_at ha 0
  have := rkind_all ⟨(a.getD 0 0).toNat, by omega⟩
  simp only at this
  rw [show (((a.getD 0 0).toNat : Nat) : Int) = a.getD 0 0 by omega] at this
  rw [rkind_one a h, this]
theorem dkind_all : ∀ b : Fin 256, der_value.L0 (b.val : Int) [(1, 1), (2, 2), (3, 3), (4, 4), (5, 6), (6, 12), (10, 24), (7, 48), (9, 49), (8, 160)] 0 = some (tblK (b.val : Int)) := by decide +kernel
theorem dkind (b : Int) (h0 : 0 ≤ b) (h1 : b ≤ 255) : der_value.L0 b [(1, 1), (2, 2), (3, 3), (4, 4), (5, 6), (6, 12), (10, 24), (7, 48), (9, 49), (8, 160)] 0 = some (tblK b) := by
  have := dkind_all ⟨b.toNat, by omega⟩
  simp only at this
  rwa [show ((b.toNat : Nat) : Int) = b by omega] at this
theorem kOf_tag {v : Der} (h : ownB v = true) : kOf (tagOf v) = Der.kind v ∧ nOf (tagOf v) = if Der.kind v = 8 then Der.num v else 0 := by
  have hk := own_kind h
  rcases kinds (Der.kind v) with k | k | k | k | k | k | k | k | k | k | k | k
  · omega
  · omega
  all_goals try (unfold tagOf; rw [k]; exact ⟨rfl, rfl⟩)
  have hn := own_num8 h k
  rw [tag8 h k]
  unfold kOf nOf
  rw [if_pos (by omega), if_pos (by omega), k]
  exact ⟨rfl, by rw [if_pos rfl]; omega⟩
theorem kOf_range (b : Int) : 0 ≤ kOf b ∧ kOf b ≤ 10 := by unfold kOf tblK; repeat' split; all_goals omega
theorem nOf_range (b : Int) : 0 ≤ nOf b ∧ nOf b ≤ 30 := by unfold nOf; split <;> omega

/-! ### leaves -/
def leafR (K N : Int) (c : List Int) : Der :=
  if K = 1 then Der.mk K (decide (c.length = 1) && c.getD 0 0 == 255) N [] [] [] [] else if K = 2 then Der.mk K false (numS c) [] [] [] [] else if K = 3 then Der.mk K false N (c.drop 1) [] [] []
  else if K = 4 then Der.mk K false N c [] [] [] else if K = 5 then Der.mk K false N [] [] (arcsR c) [] else if K = 6 ∨ K = 10 then Der.mk K false N [] (bytesL c) [] [] else Der.mk K false N [] [] [] []
def leafD (K N : Int) (c : List Int) : Der :=
  if K = 1 then Der.mk K (decide (0 < c.length) && c.getD 0 0 == 255) N [] [] [] [] else if K = 2 then Der.mk K false (numD (c.take 8)) [] [] [] [] else if K = 3 then Der.mk K false N (c.drop 1) [] [] []
  else if K = 4 then Der.mk K false N c [] [] [] else if K = 5 then Der.mk K false N [] [] (arcsD c) [] else if K = 6 ∨ K = 10 then Der.mk K false N [] (bytesL c) [] [] else Der.mk K false N [] [] [] []
theorem mk_ok {K : Int} {f : Bool} {N : Int} {b : List Int} {s : List UInt8} {a : List Int} {ks : List Der} (hK : 0 ≤ K ∧ K ≤ 10) (hN : I64 N) (hb : U8L b) (ha : U64L a) (hk : ∀ t ∈ ks, DOk t) : DOk (Der.mk K f N b s a ks) := by
  rw [DOk_iff]; exact ⟨by unfold I64; simp; omega, hN, hb, ha, hk⟩
theorem mk_tot (K : Int) (f : Bool) (N : Int) (b : List Int) (s : List UInt8) (a : List Int) (ks : List Der) : tot (Der.mk K f N b s a ks) = 1 + b.length + s.length + a.length + tots ks := by rw [tot_eq]; rfl
theorem U64L.nil : U64L [] := fun x hx => by cases hx
theorem leafD_ok {K N : Int} {c : List Int} (hK : 0 ≤ K ∧ K ≤ 10) (hN : I64 N) (hc : U8L c) : DOk (leafD K N c) ∧ tot (leafD K N c) ≤ c.length + 2 := by
  have hno : ∀ t ∈ ([] : List Der), DOk t := fun t ht => by cases ht
  have ha := arcsD_ok c hc
  have hbl : (bytesL c).length = c.length := by unfold bytesL; simp
  have hd : U8L (c.drop 1) := fun x hx => hc x (List.mem_of_mem_drop hx)
  have ht8 : U8L (c.take 8) := fun x hx => hc x (List.mem_of_mem_take hx)
  unfold leafD
  repeat' split
  · exact ⟨mk_ok hK hN U8L.nil U64L.nil hno, by rw [mk_tot]; simp [tots]⟩
  · exact ⟨mk_ok hK (numD_I64 _ ht8) U8L.nil U64L.nil hno, by rw [mk_tot]; simp [tots]⟩
  · exact ⟨mk_ok hK hN hd U64L.nil hno, by rw [mk_tot]; simp [tots]; omega⟩
  · exact ⟨mk_ok hK hN hc U64L.nil hno, by rw [mk_tot]; simp [tots]; omega⟩
  · exact ⟨mk_ok hK hN U8L.nil ha.1 hno, by rw [mk_tot]; simp [tots]; omega⟩
  · exact ⟨mk_ok hK hN U8L.nil U64L.nil hno, by rw [mk_tot, hbl]; simp [tots]; omega⟩
  · exact ⟨mk_ok hK hN U8L.nil U64L.nil hno, by rw [mk_tot]; simp [tots]⟩
theorem bytes_nums (s : List UInt8) : bytesL (numsL s) = s := by
  unfold bytesL numsL
  rw [List.map_map]
  refine Eq.trans (List.map_congr_left (g := id) fun x _ => ?_) (List.map_id s)
  simp
/-- What 'own' says of the parts that a kind does not name. -/
theorem own_rest {v : Der} (h : ownB v = true) : (Der.kind v ≠ 5 → Der.arcs v = []) ∧ (Der.kind v ≠ 6 → Der.kind v ≠ 10 → Der.text v = []) ∧ (Der.kind v ≠ 2 → Der.kind v ≠ 8 → Der.num v = 0) ∧ (Der.kind v ≠ 1 → Der.flag v = false) ∧ (Der.kind v ≠ 3 → Der.kind v ≠ 4 → Der.bytes v = []) := by
  unfold ownB textB at h
  simp only [Bool.and_eq_true] at h
  obtain ⟨⟨⟨⟨⟨⟨⟨h1, h2⟩, h3⟩, h4⟩, h5⟩, h6⟩, h7⟩, h8⟩ := h
  refine ⟨fun k => ?_, fun k k' => ?_, fun k k' => ?_, fun k => ?_, fun k k' => ?_⟩
  · rw [if_neg k] at h3; simpa using h3
  · rw [if_neg k', if_neg k] at h4; simpa using h4
  · simpa [k, k'] using h5
  · simpa [k] using h7
  · simpa [k, k'] using h8
theorem leaf_back {v : Der} (h : ownB v = true) (hv : DOk v) (h7 : Der.kind v ≠ 7) (h8 : Der.kind v ≠ 8) (h9 : Der.kind v ≠ 9) (kb : List Int) : leafR (Der.kind v) 0 (cont v kb) = v ∧ leafD (Der.kind v) 0 (cont v kb) = v := by
  obtain ⟨r1, r2, r3, r4, r5⟩ := own_rest h
  have rk := own_kids h h7 h8 h9
  have hk := own_kind h
  obtain ⟨-, hn, hb, ha, -⟩ := (DOk_iff v).1 hv
  rcases kinds (Der.kind v) with k | k | k | k | k | k | k | k | k | k | k | k
  · omega
  · omega
  · have e1 := r1 (by omega); have e2 := r2 (by omega) (by omega); have e3 := r3 (by omega) (by omega); have e5 := r5 (by omega) (by omega)
    unfold leafR leafD cont
    constructor <;> apply Der.ext <;> simp [k, e1, e2, e3, e5, rk] <;> cases Der.flag v <;> simp
  · have e1 := r1 (by omega); have e2 := r2 (by omega) (by omega); have e4 := r4 (by omega); have e5 := r5 (by omega) (by omega)
    have ew : (whl (Der.num v)).take 8 = whl (Der.num v) := List.take_of_length_le (by unfold whl; rw [be_len]; exact (szN_le _).2)
    unfold leafR leafD cont
    constructor <;> apply Der.ext <;> simp [k, e1, e2, e4, e5, rk, numS_whl hn, numD_whl hn, ew]
  · have e1 := r1 (by omega); have e2 := r2 (by omega) (by omega); have e3 := r3 (by omega) (by omega); have e4 := r4 (by omega)
    unfold leafR leafD cont
    constructor <;> apply Der.ext <;> simp [k, e1, e2, e3, e4, rk]
  · have e1 := r1 (by omega); have e2 := r2 (by omega) (by omega); have e3 := r3 (by omega) (by omega); have e4 := r4 (by omega)
    unfold leafR leafD cont
    constructor <;> apply Der.ext <;> simp [k, e1, e2, e3, e4, rk]
  · have e2 := r2 (by omega) (by omega); have e3 := r3 (by omega) (by omega); have e4 := r4 (by omega); have e5 := r5 (by omega) (by omega)
    have hA := own_arcs h k
    unfold leafR leafD cont
    constructor <;> apply Der.ext <;> simp [k, e2, e3, e4, e5, rk, arcsR_oid hA ha, arcsD_oid hA ha]
  · have e1 := r1 (by omega); have e3 := r3 (by omega) (by omega); have e4 := r4 (by omega); have e5 := r5 (by omega) (by omega)
    unfold leafR leafD cont
    constructor <;> apply Der.ext <;> simp [k, e1, e3, e4, e5, rk, bytes_nums]
  · omega
  · omega
  · omega
  · have e1 := r1 (by omega); have e3 := r3 (by omega) (by omega); have e4 := r4 (by omega); have e5 := r5 (by omega) (by omega)
    unfold leafR leafD cont
    constructor <;> apply Der.ext <;> simp [k, e1, e3, e4, e5, rk, bytes_nums]
end Go.Proofs.YtjhknfpociahoaaDoor
