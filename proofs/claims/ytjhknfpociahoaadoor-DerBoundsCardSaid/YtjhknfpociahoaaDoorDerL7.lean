import Derived.Test.YtjhknfpociahoaaDoorDerL6
namespace Go.Proofs.YtjhknfpociahoaaDoor
open Go Go.HW Go.RowKit
set_option linter.unusedVariables false
set_option linter.unusedSimpArgs false

theorem range'_getD {α : Type} (xs : List α) (d : α) (j : Nat) : (List.range' j (xs.length - j)).map (fun i => xs.getD i d) = xs.drop j := by
  apply List.ext_getElem (by simp)
  intro i h1 h2
  simp at h1 h2
  simp [List.getElem?_eq_getElem (show j + i < xs.length by omega)]
theorem range'_flatMap {α β : Type} (xs : List α) (d : α) (j : Nat) (f : α → List β) : (List.range' j (xs.length - j)).flatMap (fun i => f (xs.getD i d)) = (xs.drop j).flatMap f := by
  have := congrArg (fun l => l.flatMap f) (range'_getD xs d j)
  simpa [List.flatMap_map] using this
theorem gather0 (F : Nat → List Int → Int → Option (List Int)) (g : Nat → List Int) (n B : Nat) (y z : List Int) (hz : (List.range n).flatMap g = z)
    (step : ∀ k y i, i < n → y.length + (g i).length ≤ B → F (k + 1) y (i : Int) = F k (y ++ g i) ((i + 1 : Nat) : Int))
    (stop : ∀ k y, F (k + 1) y (n : Int) = some y) (hB : y.length + z.length ≤ B) : F (n + 1) y 0 = some (y ++ z) := by
  subst hz
  have := gather F g n B step stop n 0 y (n + 1) (by omega) (by omega) (by rw [← List.range_eq_range']; exact hB)
  rwa [← List.range_eq_range'] at this
theorem u64_mem {a : List Int} (h : U64L a) {i : Nat} (hi : i < a.length) : ((((a.getD i 0).toNat : Nat) : Int) = a.getD i 0) ∧ (a.getD i 0).toNat < 2 ^ 64 := by
  have := h _ (getD_mem (d := 0) hi)
  omega
theorem u8tag {v : Der} (h : ownB v = true) : IntKind.u8.wrap (tagOf v) = tagOf v := by have := tag_range h; exact wu8 (by omega) (by omega)
theorem oid_head {a : List Int} (h : arcsB a = true) (h64 : U64L a) : IntKind.u64.wrap (IntKind.u64.wrap (40 * (a.getD 0 0)) + a.getD 1 0) = ((40 * (a.getD 0 0).toNat + (a.getD 1 0).toNat : Nat) : Int) ∧ 40 * (a.getD 0 0).toNat + (a.getD 1 0).toNat < 2 ^ 32 := by
  obtain ⟨h2, h16, h0, _, hx⟩ := arcs_two h
  have b0 := h64 _ (getD_mem (d := 0) (show 0 < a.length by omega))
  have b1 := h64 _ (getD_mem (d := 0) (show 1 < a.length by omega))
  have c1 := hx _ (getD_mem (d := 0) (show 1 < a.length by omega))
  rw [wu64 (n := 40 * _) (by omega) (by omega), wu64 (by omega) (by omega)]
  omega

/-! ### the reference packs -/
theorem rcont_eq (r : Der → Option (List Int)) (v : Der) (hr : ∀ t ∈ Tree.kids v, r t = some (pk t)) (ho : ownB v = true) (hv : DOk v) (ht : tot v ≤ 1048576) : ref13_content.f r v = some (cont v (pkL (Tree.kids v))) := by
  have hv' := tot_eq v
  have hl := tots_len (Tree.kids v)
  have hp := pkL_len (Tree.kids v)
  obtain ⟨-, hn, hb, ha, -⟩ := (DOk_iff v).1 hv
  have hk := own_kind ho
  unfold ref13_content.f cont
  rcases kinds (Der.kind v) with h | h | h | h | h | h | h | h | h | h | h | h
  · omega
  · omega
  · have h0 := own_kids ho (by omega) (by omega) (by omega)
    cases hf : Der.flag v <;> simp [h, h0, hf, ref13_content.L0]
  · have h0 := own_kids ho (by omega) (by omega) (by omega)
    have : (whl (Der.num v)).length ≤ 8 := by unfold whl; rw [be_len]; exact (szN_le _).2
    simp [h, h0, rwhole_eq, ref13_content.L1]
    rw [rq (by omega)]
  · have h0 := own_kids ho (by omega) (by omega) (by omega)
    simp [h, h0, ref13_content.L2]
    rw [rq (by omega)]
  · have h0 := own_kids ho (by omega) (by omega) (by omega)
    simp [h, h0, ref13_content.L3]
  · have h0 := own_kids ho (by omega) (by omega) (by omega)
    have hA := own_arcs ho h
    obtain ⟨e, hlt⟩ := oid_head hA ha
    obtain ⟨h2, h16, -, -, -⟩ := arcs_two hA
    have hg := grp_len (40 * ((Der.arcs v).getD 0 0).toNat + ((Der.arcs v).getD 1 0).toNat)
    have hs := gather (ref13_content.L4 v) (fun i => grp ((Der.arcs v).getD i 0).toNat) (Der.arcs v).length 1099511627776
      (fun k y i hi hB => by
        obtain ⟨u1, u2⟩ := u64_mem ha hi
        have hx := grp_len ((Der.arcs v).getD i 0).toNat
        rw [ref13_content.L4, if_pos (by simp; omega), rq (by omega), rq (by omega), Int.toNat_natCast, suc hi (by omega)]
        rw [← u1, rgroups_eq _ u2]
        simp only [Option.bind_some, u1]
        rw [rq (by omega), rq hB])
      (fun k y => by rw [ref13_content.L4, if_neg (by simp)])
      ((Der.arcs v).length - 2) 2 (grp (40 * ((Der.arcs v).getD 0 0).toNat + ((Der.arcs v).getD 1 0).toNat)) ((Der.arcs v).length - 2 + 1) (by omega) (by omega) (by
        have := flat_len (fun i => grp ((Der.arcs v).getD i 0).toNat) 11 (fun i => grp_len _) (List.range' 2 ((Der.arcs v).length - 2))
        rw [List.length_range'] at this
        have : 11 * ((Der.arcs v).length - 2) ≤ 11 * 16 := Nat.mul_le_mul_left _ (by omega)
        omega)
    rw [range'_flatMap (Der.arcs v) 0 2 (fun x => grp x.toNat)] at hs
    have ef : (((Der.arcs v).length : Int) - (2 : Int)).toNat + 1 = (Der.arcs v).length - 2 + 1 := by omega
    rw [h]
    rw [show ((5 : Int) == 1) = false from rfl, show ((5 : Int) == 2) = false from rfl, show ((5 : Int) == 3) = false from rfl, show ((5 : Int) == 4) = false from rfl, show ((5 : Int) == 5) = true from rfl]
    simp only [Bool.false_eq_true, if_false, if_true, nmE, show (0 : Int).toNat = 0 from rfl, show (1 : Int).toNat = 1 from rfl, e, rgroups_eq _ (show 40 * ((Der.arcs v).getD 0 0).toNat + ((Der.arcs v).getD 1 0).toNat < 2 ^ 64 by omega), Option.bind_some]
    rw [rq (by omega), rq (by omega), rq (by omega), ef, show (2 : Int) = ((2 : Nat) : Int) from rfl, hs]
    simp [h0, ref13_content.L5, oidC]
  · have h0 := own_kids ho (by omega) (by omega) (by omega)
    simp [h, h0, ref13_content.L6]
  all_goals try
    (have h0 := own_kids ho (by omega) (by omega) (by omega)
     simp [h, h0, ref13_content.L6]
     done)
  all_goals
    have hs := gather0 (ref13_content.L7 r v) (fun i => pk ((Tree.kids v).getD i Der.dflt)) (Tree.kids v).length 1099511627776 [] (pkL (Tree.kids v)) (by rw [range_flatMap (Tree.kids v) Der.dflt pk, pkL_eq])
      (fun k y i hi hB => by
        rw [ref13_content.L7, nmE, if_pos (by simp; omega), rq (by omega), rq (by omega), nmE, Int.toNat_natCast, suc hi (by omega), hr _ (getD_mem hi), Option.bind_some, rq hB])
      (fun k y => by rw [ref13_content.L7, nmE, if_neg (by simp)]) (by simp; omega)
    simp [h, hs]
theorem rpack : ∀ (k d : Nat) (v : Der), Tree.depth v ≤ k → tot v ≤ 1048576 → mayB d v = true → DOk v → ref13_Pack.f k v = some (pk v)
  | 0, d, v, h, _, _, _ => by have := depth_pos v; omega
  | k + 1, d, v, h, ht, hm, hv => by
    unfold ref13_Pack.f ref13_Pack.F
    have hv' := tot_eq v
    have ho := may_own hm
    obtain ⟨-, -, -, -, hkid⟩ := (DOk_iff v).1 hv
    have hr : ∀ t ∈ Tree.kids v, ref13_Pack.f k t = some (pk t) := fun t hmem => by
      obtain ⟨e, he⟩ := may_kids' hm t hmem
      exact rpack k e t (by have := depth_kid hmem; omega) (by have := tots_mem t hmem; omega) he (hkid t hmem)
    rw [rcont_eq _ v hr ho hv ht, rtag_eq, pk_eq]
    have hc := cont_len v (pkL (Tree.kids v))
    have hp := pkL_len (Tree.kids v)
    generalize hcc : cont v (pkL (Tree.kids v)) = c at *
    simp only [Option.bind_some, u8tag ho]
    unfold hdr
    by_cases c1 : c.length < 128
    · have c1' : ((c.length : Int) < 128) := by omega
      simp only [c1, c1', decide_true, if_true, wu8 (n := (c.length : Int)) (by omega) (by omega)]
      rw [rq (by simp), Option.bind_some, rq (by simp; omega)]; rfl
    · have c1' : ¬ ((c.length : Int) < 128) := by omega
      by_cases c2 : c.length < 256
      · have c2' : ((c.length : Int) < 256) := by omega
        simp only [c1, c1', c2, c2', decide_true, decide_false, Bool.false_eq_true, if_false, if_true, wu8 (n := (c.length : Int)) (by omega) (by omega)]
        rw [rq (by simp), Option.bind_some, Option.bind_some, rq (by simp; omega)]; rfl
      · have c2' : ¬ ((c.length : Int) < 256) := by omega
        have e1 : (Int.tdiv (c.length : Int) 256) = ((c.length / 256 : Nat) : Int) := td _ 256
        have e2 : (Int.tmod (c.length : Int) 256) = ((c.length % 256 : Nat) : Int) := tm _ 256
        have e3 : (Int.tmod ((c.length / 256 : Nat) : Int) 256) = ((c.length / 256 % 256 : Nat) : Int) := tm _ 256
        simp only [c1, c1', c2, c2', decide_true, decide_false, Bool.false_eq_true, if_false, if_true, nmE, e1, e2]
        rw [w64 (n := ((c.length / 256 : Nat) : Int)) (by omega) (by omega), e3, wu8 (n := ((c.length / 256 % 256 : Nat) : Int)) (by omega) (by omega), wu8 (n := ((c.length % 256 : Nat) : Int)) (by omega) (by omega)]
        rw [rq (by simp), Option.bind_some, Option.bind_some, rq (by simp; omega)]; rfl

/-! ### the code packs -/
theorem dcont_eq (r : Der → Option (List Int)) (v : Der) (hr : ∀ t ∈ Tree.kids v, r t = some (pkd t)) (ho : ownB v = true) (hv : DOk v) (ht : tot v ≤ 1048576) : der_content.f r v = some (cont v (pkdL (Tree.kids v))) := by
  have hv' := tot_eq v
  have hl := tots_len (Tree.kids v)
  have hp := pkdL_len (Tree.kids v)
  obtain ⟨-, hn, hb, ha, -⟩ := (DOk_iff v).1 hv
  have hk := own_kind ho
  unfold der_content.f cont
  rcases kinds (Der.kind v) with h | h | h | h | h | h | h | h | h | h | h | h
  · omega
  · omega
  · cases hf : Der.flag v <;> simp [h, hf]
  · have : (whl (Der.num v)).length ≤ 8 := by unfold whl; rw [be_len]; exact (szN_le _).2
    simp [h, dwhole_eq _ hn]
    rw [rq (by omega)]
  · simp [h]
    rw [rq (by omega)]
  · simp [h]
  · have hA := own_arcs ho h
    obtain ⟨e, hlt⟩ := oid_head hA ha
    obtain ⟨h2, h16, -, -, -⟩ := arcs_two hA
    have hg := grp_len (40 * ((Der.arcs v).getD 0 0).toNat + ((Der.arcs v).getD 1 0).toNat)
    have ha2 : U64L ((Der.arcs v).drop 2) := fun x hx => ha x (List.mem_of_mem_drop hx)
    have hd : ((Der.arcs v).drop 2).length = (Der.arcs v).length - 2 := List.length_drop
    have hs := gather0 (der_content.L0 v) (fun i => grp (((Der.arcs v).drop 2).getD i 0).toNat) ((Der.arcs v).drop 2).length 1099511627776 (grp (40 * ((Der.arcs v).getD 0 0).toNat + ((Der.arcs v).getD 1 0).toNat)) (((Der.arcs v).drop 2).flatMap fun x => grp x.toNat) (range_flatMap ((Der.arcs v).drop 2) 0 (fun x : Int => grp x.toNat))
      (fun k y i hi hB => by
        obtain ⟨u1, u2⟩ := u64_mem ha2 hi
        have hx := grp_len (((Der.arcs v).drop 2).getD i 0).toNat
        rw [der_content.L0, nmE, if_pos (by simp; omega), show (2 : Int).toNat = 2 from rfl, rq (by omega), rq (by omega), Int.toNat_natCast, suc hi (by omega)]
        rw [← u1, dgroups_eq _ u2]
        simp only [Option.bind_some, u1]
        rw [rq (by omega), rq hB])
      (fun k y => by rw [der_content.L0, nmE, if_neg (by simp)])
      (by
        have := flat_len (fun x : Int => grp x.toNat) 11 (fun i => grp_len _) ((Der.arcs v).drop 2)
        have : 11 * ((Der.arcs v).drop 2).length ≤ 11 * 16 := Nat.mul_le_mul_left _ (by omega)
        omega)
    rw [h]
    rw [show ((5 : Int) == 1) = false from rfl, show ((5 : Int) == 2) = false from rfl, show ((5 : Int) == 3) = false from rfl, show ((5 : Int) == 4) = false from rfl, show ((5 : Int) == 5) = true from rfl]
    simp only [Bool.false_eq_true, if_false, if_true, nmE, show (0 : Int).toNat = 0 from rfl, show (1 : Int).toNat = 1 from rfl, show (2 : Int).toNat = 2 from rfl, e, dgroups_eq _ (show 40 * ((Der.arcs v).getD 0 0).toNat + ((Der.arcs v).getD 1 0).toNat < 2 ^ 64 by omega), Option.bind_some, Int.toNat_natCast]
    rw [rq (by omega), rq (by omega), rq (by omega), rq (by omega), hs]
    simp [oidC]
  · simp [h]
  all_goals try
    (simp [h]
     done)
  all_goals
    have hs := gather0 (der_content.L1 r v) (fun i => pkd ((Tree.kids v).getD i Der.dflt)) (Tree.kids v).length 1099511627776 [] (pkdL (Tree.kids v)) (by rw [range_flatMap (Tree.kids v) Der.dflt pkd, pkdL_eq])
      (fun k y i hi hB => by
        rw [der_content.L1, nmE, if_pos (by simp; omega), rq (by omega), rq (by omega), nmE, Int.toNat_natCast, suc hi (by omega), hr _ (getD_mem hi), Option.bind_some, rq hB])
      (fun k y => by rw [der_content.L1, nmE, if_neg (by simp)]) (by simp; omega)
    simp [h, hs]
theorem tagsD {v : Der} (h : ownB v = true) : (if (Der.kind v == 8) = true then some (IntKind.u8.wrap (assocD [(1, 1), (2, 2), (3, 3), (4, 4), (5, 6), (6, 12), (10, 24), (7, 48), (9, 49), (8, 160)] (Der.kind v) + IntKind.u8.wrap (Der.num v))) else some (assocD [(1, 1), (2, 2), (3, 3), (4, 4), (5, 6), (6, 12), (10, 24), (7, 48), (9, 49), (8, 160)] (Der.kind v))) = some (tagOf v) := by
  have hk := own_kind h
  rcases kinds (Der.kind v) with k | k | k | k | k | k | k | k | k | k | k | k
  · omega
  · omega
  all_goals try
    (unfold tagOf; rw [k]; rfl)
  have h8 := tag8 h k
  have hn := own_num8 h k
  rw [h8, k, wu8 (n := Der.num v) (by omega) (by omega)]
  show some (IntKind.u8.wrap (160 + Der.num v)) = _
  rw [wu8 (by omega) (by omega)]
theorem dpack : ∀ (k d : Nat) (v : Der), Tree.depth v ≤ k → tot v ≤ 1048576 → mayB d v = true → DOk v → der_pack.f k v = some (pkd v)
  | 0, d, v, h, _, _, _ => by have := depth_pos v; omega
  | k + 1, d, v, h, ht, hm, hv => by
    unfold der_pack.f der_pack.F
    have hv' := tot_eq v
    have ho := may_own hm
    obtain ⟨-, -, -, -, hkid⟩ := (DOk_iff v).1 hv
    have hr : ∀ t ∈ Tree.kids v, der_pack.f k t = some (pkd t) := fun t hmem => by
      obtain ⟨e, he⟩ := may_kids' hm t hmem
      exact dpack k e t (by have := depth_kid hmem; omega) (by have := tots_mem t hmem; omega) he (hkid t hmem)
    rw [dcont_eq _ v hr ho hv ht, pkd_eq]
    have hc := cont_len v (pkdL (Tree.kids v))
    have hp := pkdL_len (Tree.kids v)
    have hl := tots_len (Tree.kids v)
    generalize hcc : cont v (pkdL (Tree.kids v)) = c at *
    rw [show der_tags.f = some () from rfl]
    simp only [Option.bind_some, nmE]
    rw [tagsD ho]
    simp only [Option.bind_some]
    unfold hdr
    by_cases c0 : 65535 < c.length
    · have c0' : (65535 : Int) < c.length := by omega
      rw [if_pos (by simpa using c0'), if_pos c0]
    · have c0' : ¬ (65535 : Int) < c.length := by omega
      rw [if_neg (by simpa using c0'), if_neg c0]
      by_cases c1 : 255 < c.length
      · have c1' : (255 : Int) < c.length := by omega
        have e1 : ishr .i64 (c.length : Int) 8 = ((c.length / 256 : Nat) : Int) := by
          show Int.fdiv (c.length : Int) (2 ^ 8) = _
          rw [Int.fdiv_eq_ediv_of_nonneg _ (by decide)]; norm_cast
        have e2 : IntKind.u8.wrap ((c.length / 256 : Nat) : Int) = ((c.length / 256 % 256 : Nat) : Int) := by rw [IntKind.wrap_u8]; omega
        have e3 : IntKind.u8.wrap (c.length : Int) = ((c.length % 256 : Nat) : Int) := by rw [IntKind.wrap_u8]; omega
        rw [if_pos (by simpa using c1'), if_neg (by omega), if_neg (by omega), e1, e2, e3, rq (by simp), Option.bind_some, rq (by simp; omega)]; rfl
      · have c1' : ¬ (255 : Int) < c.length := by omega
        rw [if_neg (by simpa using c1'), wu8 (n := (c.length : Int)) (by omega) (by omega)]
        by_cases c2 : 127 < c.length
        · have c2' : (127 : Int) < c.length := by omega
          rw [if_pos (by simpa using c2'), if_neg (by omega), if_pos (by omega), rq (by simp), Option.bind_some, Option.bind_some, rq (by simp; omega)]; rfl
        · have c2' : ¬ (127 : Int) < c.length := by omega
          rw [if_neg (by simpa using c2'), if_pos (by omega), rq (by simp), Option.bind_some, Option.bind_some, rq (by simp; omega)]; rfl
/-- What both answer: the bytes, and the error's number. -/
def bytesR (v : Der) : List Int × Int := if mayB 12 v then (if (pk v).length ≤ 65000 then (pk v, 0) else ([], 3)) else ([], 2)
theorem dMay_eq (v : Der) (ht : tot v ≤ 1048576) : der_May.f v = some (mayB 12 v) := by
  unfold der_May.f
  rw [show (12 : Int) = ((12 : Nat) : Int) from rfl, dmay _ 12 v (by decide) (by decide) ht]; rfl
theorem rMay_eq (v : Der) (ht : tot v ≤ 1048576) : ref13_May.f ((12 : Int).toNat + 1) v 12 = some (mayB 12 v) := rmay 13 12 v (by decide) (by decide) ht
theorem dBytes_eq (v : Der) (ht : tot v ≤ 1048576) (hv : DOk v) : der_Bytes.f v = some (bytesR v) := by
  unfold der_Bytes.f bytesR
  rw [dMay_eq v ht, Option.bind_some]
  cases hm : mayB 12 v
  · simp
  · have hp : der_pack.f (Der.fuel v) v = some (pkd v) := dpack _ 12 v (Nat.le_refl _) ht hm hv
    simp only [hp, Bool.not_true, Bool.false_eq_true, if_false, if_true, Option.bind_some]
    by_cases h : (pk v).length ≤ 65000
    · have h' : ¬ (65000 : Int) < (pk v).length := by omega
      rw [pk_short h, if_neg (by simpa using h'), if_pos h]
    · have h2 := pkd_long (v := v) (by omega)
      have h' : (65000 : Int) < (pkd v).length := by omega
      rw [if_pos (by simpa using h'), if_neg h]
end Go.Proofs.YtjhknfpociahoaaDoor
