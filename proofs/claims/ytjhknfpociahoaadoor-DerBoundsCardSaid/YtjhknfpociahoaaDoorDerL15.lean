import Derived.Test.YtjhknfpociahoaaDoorDerL14
namespace Go.Proofs.YtjhknfpociahoaaDoor
open Go Go.HW Go.RowKit
set_option linter.unusedVariables false
set_option linter.unusedSimpArgs false

/-! ### the code reads -/
theorem dF_none (r : List Int → Int → Option (Der × Int × Bool)) (b : List Int) (hb : U8L b) (hl : b.length ≤ 1048576) (d : Int) (h : headL b = none ∨ (∃ f n, headL b = some (f, n) ∧ b.length < f + n) ∨ d < 1) : der_value.F r b d = some (Der.dflt, 0, false) := by
  unfold der_value.F
  rw [dhead_eq b hb hl]
  rcases h with h | ⟨f, n, h, hx⟩ | h
  · rw [h]; rfl
  · rw [h]
    have : ¬ f + n ≤ b.length := by omega
    simp only [Option.bind_some, this, decide_false, Bool.not_false, if_true]; rfl
  · cases headL b with
    | none => rfl
    | some p =>
      obtain ⟨f, n⟩ := p
      simp only [Option.bind_some]
      cases decide (f + n ≤ b.length)
      · rfl
      · simp [h]; rfl
theorem nOf_zero {b : Int} (h : kOf b ≠ 8) : nOf b = 0 := by
  unfold kOf at h; unfold nOf
  split at h
  · exact absurd rfl h
  · rename_i c; rw [if_neg c]
theorem clone_eq (l : List Int) (h : l.length ≤ 1048576) : slices_Clone_41.f l = some l := by
  unfold slices_Clone_41.f
  rw [rq (by simp; omega)]; rfl
theorem dF_eq (r : List Int → Int → Option (Der × Int × Bool)) (b : List Int) (hb : U8L b) (hl : b.length ≤ 1048576) (d : Int) (hd : 1 ≤ d) (f n : Nat) (hh : headL b = some (f, n)) (hfn : f + n ≤ b.length) :
    der_value.F r b d = if kOf (b.getD 0 0) = 7 ∨ kOf (b.getD 0 0) = 8 ∨ kOf (b.getD 0 0) = 9 then (der_kids.f r (cOf b f n) (IntKind.i64.wrap (d - 1))).bind fun p => some (Der.mk (kOf (b.getD 0 0)) false (nOf (b.getD 0 0)) [] [] [] p.1, ((f + n : Nat) : Int), p.2)
      else some (leafD (kOf (b.getD 0 0)) (nOf (b.getD 0 0)) (cOf b f n), ((f + n : Nat) : Int), kOf (b.getD 0 0) != 0) := by
  obtain ⟨hf2, hfl, hn⟩ := headL_pos hb hh
  have hb0 := u8_at hb 0
  have hc := cOf_u8 hb f n
  have hcl := cOf_len hfn
  unfold der_value.F
  rw [dhead_eq b hb hl, hh]
  have d1 : ¬ d < 1 := by omega
  simp only [Option.bind_some, hfn, decide_true, Bool.not_true, Bool.false_eq_true, if_false, d1, decide_false, nmE]
  have efn : IntKind.i64.wrap ((f : Int) + (n : Int)) = ((f + n : Nat) : Int) := by rw [w64 (by omega) (by omega)]; omega
  rw [efn, rq (by omega), rq (by omega), rq (by omega), dkind _ hb0.1 hb0.2, show der_tags.f = some () from rfl]
  rw [show ((f : Nat) : Int).toNat = f from Int.toNat_natCast f, show ((f + n : Nat) : Int).toNat = f + n from Int.toNat_natCast _, show f + n - f = n by omega, show (0 : Int).toNat = 0 from rfl]
  rw [show (b.drop f).take n = cOf b f n from rfl]
  simp only [Option.bind_some]
  have ek : (if decide (160 ≤ b.getD 0 0) = true then some (decide (b.getD 0 0 ≤ 190)) else some false).bind (fun q126 => if q126 = true then some ((8 : Int), IntKind.i64.wrap (IntKind.u8.wrap (b.getD 0 0 - 160))) else some (tblK (b.getD 0 0), 0)) = some (kOf (b.getD 0 0), nOf (b.getD 0 0)) := by
    rw [conj_some, Option.bind_some]
    unfold kOf nOf
    by_cases c : 160 ≤ b.getD 0 0 ∧ b.getD 0 0 ≤ 190
    · rw [if_pos c, if_pos c, if_pos (by rw [Bool.and_eq_true, decide_eq_true_eq, decide_eq_true_eq]; exact c), wu8 (by omega) (by omega), w64 (by omega) (by omega)]
    · rw [if_neg c, if_neg c, if_neg (fun h => c (by rwa [Bool.and_eq_true, decide_eq_true_eq, decide_eq_true_eq] at h))]
  have eb : ∀ (g : Int × Int → Option (Der × Int × Bool)), ((if decide (160 ≤ b.getD 0 0) = true then some (decide (b.getD 0 0 ≤ 190)) else some false).bind fun q126 => (if q126 = true then some ((8 : Int), IntKind.i64.wrap (IntKind.u8.wrap (b.getD 0 0 - 160))) else some (tblK (b.getD 0 0), 0)).bind g) = g (kOf (b.getD 0 0), nOf (b.getD 0 0)) := fun g => by
    rw [← Option.bind_assoc, ek]; rfl
  rw [eb]
  have hkr := kOf_range (b.getD 0 0)
  have hkn := @nOf_zero (b.getD 0 0)
  have har := arcsD_ok _ hc
  rw [darcs_eq _ hc (by omega), clone_eq _ (show (cOf b f n).length ≤ 1048576 by omega)]
  generalize kOf (b.getD 0 0) = K at *
  generalize nOf (b.getD 0 0) = N at *
  generalize cOf b f n = c at *
  have ed3 : c.drop (if 1 < (n : Int) then 1 else (n : Int)).toNat = c.drop 1 := by
    by_cases h1 : 1 < (n : Int)
    · rw [if_pos h1]; rfl
    · rw [if_neg h1, Int.toNat_natCast, List.drop_eq_nil_of_le (by omega), List.drop_eq_nil_of_le (by omega)]
  have et8 : c.take (if 8 < (n : Int) then 8 else (n : Int)).toNat = c.take 8 := by
    by_cases h1 : 8 < (n : Int)
    · rw [if_pos h1]; rfl
    · rw [if_neg h1, Int.toNat_natCast, List.take_of_length_le (by omega), List.take_of_length_le (by omega)]
  have hnum := dnum_eq (n : Int) c (c.take 8) et8 (by rw [List.length_take]; omega) hc
  have eq1 : (if decide ((0 : Int) < (n : Int)) = true then req ((0 : Int) < c.length) (some (c.getD 0 0 == 255)) else some false) = some (decide (0 < c.length) && c.getD 0 0 == 255) := by
    by_cases h1 : 0 < c.length
    · rw [if_pos (decide_eq_true (by omega)), rq (by omega)]; simp [h1]
    · rw [if_neg (fun h => h1 (by have := of_decide_eq_true h; omega))]; simp [h1]
  rw [eq1, ed3, et8, clone_eq _ (show (c.drop 1).length ≤ 1048576 by rw [List.length_drop]; omega), rq (show 0 ≤ (if 8 < (n : Int) then 8 else (n : Int)) by split <;> omega), rq (show (if 8 < (n : Int) then 8 else (n : Int)) ≤ (c.length : Int) by split <;> omega), rq (show 0 ≤ (if 1 < (n : Int) then 1 else (n : Int)) by split <;> omega), rq (show (if 1 < (n : Int) then 1 else (n : Int)) ≤ (c.length : Int) by split <;> omega), Int.toNat_natCast]
  simp only [Option.bind_some]
  rw [rq (show (arcsD c).length ≤ 1099511627776 by omega)]
  unfold leafD
  rcases (show K = 0 ∨ K = 1 ∨ K = 2 ∨ K = 3 ∨ K = 4 ∨ K = 5 ∨ K = 6 ∨ K = 7 ∨ K = 8 ∨ K = 9 ∨ K = 10 by omega) with h | h | h | h | h | h | h | h | h | h | h <;> subst h
  · rfl
  · rfl
  · rw [hkn (by decide), hnum]; rfl
  · rfl
  · rfl
  · rfl
  · rfl
  · rcases der_kids.f r c (IntKind.i64.wrap (d - 1)) with _ | ⟨p, q⟩ <;> rfl
  · rcases der_kids.f r c (IntKind.i64.wrap (d - 1)) with _ | ⟨p, q⟩ <;> rfl
  · rcases der_kids.f r c (IntKind.i64.wrap (d - 1)) with _ | ⟨p, q⟩ <;> rfl
  · rfl
theorem dK_total (r : List Int → Int → Option (Der × Int × Bool)) (d : Int)
    (hr : ∀ x, U8L x → x.length ≤ 1048576 → ∃ v n ok, r x d = some (v, n, ok) ∧ (ok = true → Good x v n)) :
    ∀ (m : Nat) (x : List Int) (y : List Der) (k : Nat), x.length ≤ m → m < k → m ≤ 1048576 → U8L x → y.length + m ≤ 1099511627776 → (∀ t ∈ y, DOk t) →
      (∃ ys, der_kids.L0 r d k y x = some (.inl ys) ∧ (∀ t ∈ ys, DOk t) ∧ tots ys ≤ tots y + x.length) ∨ der_kids.L0 r d k y x = some (.inr ([], false))
  | m, x, y, 0, hx, hk, _, _, _, _ => by omega
  | m, x, y, k + 1, hx, hk, hm, hu, hy, hok => by
    rw [der_kids.L0]
    by_cases h0 : 0 < x.length
    · rw [if_pos (decide_eq_true (by omega))]
      obtain ⟨v, n, ok, e, hg⟩ := hr x hu (by omega)
      rw [e]
      simp only [Option.bind_some]
      cases ok with
      | false => right; rfl
      | true =>
        obtain ⟨g1, g2, g3, g4⟩ := hg rfl
        simp only [Bool.not_true, Bool.false_eq_true, if_false]
        rw [rq (by omega), rq (by omega), rq (by simp; omega)]
        have hlen : (x.drop n.toNat).length = x.length - n.toNat := List.length_drop
        rcases dK_total r d hr (m - 2) (x.drop n.toNat) (y ++ [v]) k (by omega) (by omega) (by omega) (fun z hz => hu z (List.mem_of_mem_drop hz)) (by simp; omega) (fun t ht => by
          rcases List.mem_append.1 ht with ht | ht
          · exact hok t ht
          · rw [List.mem_singleton.1 ht]; exact g1) with ⟨ys, e1, e2, e3⟩ | e1
        · left
          refine ⟨ys, e1, e2, ?_⟩
          rw [tots_append, tots, tots] at e3
          omega
        · right; exact e1
    · rw [if_neg (fun h => h0 (by have := of_decide_eq_true h; omega))]
      left; exact ⟨y, rfl, hok, by omega⟩
theorem dread_total : ∀ (k d : Nat) (b : List Int), d < k → d ≤ 1000 → U8L b → b.length ≤ 1048576 → ∃ v n ok, der_value.f k b (d : Int) = some (v, n, ok) ∧ (ok = true → Good b v n)
  | 0, d, b, h, _, _, _ => by omega
  | k + 1, d, b, h, hd, hb, hl => by
    unfold der_value.f
    cases hh : headL b with
    | none => exact ⟨_, _, _, dF_none _ b hb hl _ (Or.inl hh), fun h => by cases h⟩
    | some p =>
      obtain ⟨f, n⟩ := p
      by_cases hfn : f + n ≤ b.length
      · cases d with
        | zero => exact ⟨_, _, _, dF_none _ b hb hl _ (Or.inr (Or.inr (by decide))), fun h => by cases h⟩
        | succ d =>
          obtain ⟨p1, p2, p3⟩ := headL_pos hb hh
          have hcl := cOf_len hfn
          have hcu := cOf_u8 hb f n
          have hkr := kOf_range (b.getD 0 0)
          rw [dF_eq _ b hb hl _ (by omega) f n hh hfn]
          by_cases hk : kOf (b.getD 0 0) = 7 ∨ kOf (b.getD 0 0) = 8 ∨ kOf (b.getD 0 0) = 9
          · rw [if_pos hk, show IntKind.i64.wrap (((d + 1 : Nat) : Int) - 1) = (d : Int) by rw [w64 (by omega) (by omega)]; omega]
            have hr : ∀ x, U8L x → x.length ≤ 1048576 → ∃ v n ok, der_value.f k x (d : Int) = some (v, n, ok) ∧ (ok = true → Good x v n) := fun x hx hxl => dread_total k d x (by omega) (by omega) hx hxl
            unfold der_kids.f
            rw [Int.toNat_natCast]
            rcases dK_total (der_value.f k) (d : Int) hr (cOf b f n).length (cOf b f n) [] ((cOf b f n).length + 1) (Nat.le_refl _) (by omega) (by omega) hcu (by simp; omega) (fun t ht => by cases ht) with ⟨ys, e1, e2, e3⟩ | e1
            · rw [e1, onw_inl]
              refine ⟨_, _, _, rfl, fun _ => ⟨mk_ok hkr (nI64 _) U8L.nil U64L.nil e2, by omega, by omega, ?_⟩⟩
              rw [mk_tot]
              rw [tots] at e3
              simp only [List.length_nil]
              omega
            · rw [e1, onw_inr]
              exact ⟨_, _, _, rfl, fun h => by cases h⟩
          · rw [if_neg hk]
            obtain ⟨l1, l2⟩ := leafD_ok hkr (nI64 (b.getD 0 0)) hcu
            exact ⟨_, _, _, rfl, fun _ => ⟨l1, by omega, by omega, by omega⟩⟩
      · exact ⟨_, _, _, dF_none _ b hb hl _ (Or.inr (Or.inl ⟨f, n, hh, by omega⟩)), fun h => by cases h⟩
theorem dK_back (r : List Int → Int → Option (Der × Int × Bool)) (d : Int) (B : Nat) :
    ∀ (ks : List Der) (y : List Der) (k : Nat), (∀ t ∈ ks, ∀ rest, U8L (pk t ++ rest) → (pk t ++ rest).length ≤ B → r (pk t ++ rest) d = some (t, ((pk t).length : Int), true)) → (pkL ks).length ≤ B → (pkL ks).length < k → U8L (pkL ks) → y.length + ks.length ≤ 1099511627776 →
      der_kids.L0 r d k y (pkL ks) = some (.inl (y ++ ks))
  | _, _, 0, _, _, hk, _, _ => by omega
  | [], y, k + 1, _, _, _, _, _ => by rw [der_kids.L0, pkL]; simp
  | t :: ks, y, k + 1, hr, hB, hk, hu, hy => by
    have h2 := pk_two t
    rw [pkL] at hB hk hu ⊢
    have e := hr t (by simp) (pkL ks) hu hB
    rw [List.length_append] at hB hk
    rw [der_kids.L0, if_pos (decide_eq_true (by rw [List.length_append]; omega)), e]
    simp only [Option.bind_some, Bool.not_true, Bool.false_eq_true, if_false]
    simp only [List.length_cons] at hy
    rw [rq (by omega), rq (by rw [List.length_append]; omega), rq (by simp; omega), Int.toNat_natCast, List.drop_left]
    rw [dK_back r d B ks (y ++ [t]) k (fun x hx => hr x (by simp [hx])) (by omega) (by omega) (fun z hz => hu z (List.mem_append_right _ hz)) (by simp; omega)]
    simp
theorem kids_le (l : List Der) : l.length ≤ (pkL l).length := by
  rw [pkL_eq]
  induction l with
  | nil => simp
  | cons a r ih => rw [List.flatMap_cons, List.length_append, List.length_cons]; have := pk_two a; omega
theorem dread_back : ∀ (k d : Nat) (v : Der) (rest : List Int), d < k → d ≤ 1000 → mayB d v = true → DOk v → (pk v).length ≤ 65535 → U8L (pk v ++ rest) → (pk v ++ rest).length ≤ 1048576 → der_value.f k (pk v ++ rest) (d : Int) = some (v, ((pk v).length : Int), true)
  | 0, d, v, rest, h, _, _, _, _, _, _ => by omega
  | k + 1, 0, v, rest, h, _, hm, _, _, _, _ => by simp [mayB] at hm
  | k + 1, d + 1, v, rest, h, hd, hm, hv, hp, hu, hl => by
    unfold der_value.f
    have ho := may_own hm
    obtain ⟨-, -, -, -, hkid⟩ := (DOk_iff v).1 hv
    have hkm := may_kids hm
    have hpe := pk_eq v
    have ht := kOf_tag ho
    have hplen : (pk v).length = (hdr (tagOf v) (cont v (pkL (Tree.kids v))).length).length + (cont v (pkL (Tree.kids v))).length := by rw [hpe, List.length_append]
    obtain ⟨hh, h0⟩ := head_hdr (tagOf v) (cont v (pkL (Tree.kids v))).length (by omega) (cont v (pkL (Tree.kids v)) ++ rest)
    rw [← List.append_assoc, ← hpe] at hh h0
    have hhl := (hdr_len (tagOf v) (cont v (pkL (Tree.kids v))).length).1
    have hc : cOf (pk v ++ rest) (hdr (tagOf v) (cont v (pkL (Tree.kids v))).length).length (cont v (pkL (Tree.kids v))).length = cont v (pkL (Tree.kids v)) := by
      unfold cOf
      rw [hpe, List.append_assoc, List.drop_left, List.take_left]
    rw [dF_eq _ _ hu hl _ (by omega) _ _ hh (by rw [List.length_append]; omega), h0, ht.1, ht.2, hc, ← hplen]
    by_cases hk : Der.kind v = 7 ∨ Der.kind v = 8 ∨ Der.kind v = 9
    · rw [if_pos hk, show IntKind.i64.wrap (((d + 1 : Nat) : Int) - 1) = (d : Int) by rw [w64 (by omega) (by omega)]; omega]
      have hcc : cont v (pkL (Tree.kids v)) = pkL (Tree.kids v) := by
        unfold cont; rcases hk with hk | hk | hk <;> simp [hk]
      rw [hcc] at hplen ⊢
      have huk : U8L (pkL (Tree.kids v)) := fun x hx => hu x (List.mem_append_left _ (by rw [hpe, hcc]; exact List.mem_append_right _ hx))
      have hb := dK_back (der_value.f k) (d : Int) 65535 (Tree.kids v) [] ((pkL (Tree.kids v)).length + 1) (fun t ht' rest' hu' hl' => by
        rw [List.length_append] at hl'
        exact dread_back k d t rest' (by omega) (by omega) (hkm t ht') (hkid t ht') (by omega) hu' (by rw [List.length_append]; omega)) (by omega) (by omega) huk (by
          have := kids_le (Tree.kids v)
          simp; omega)
      unfold der_kids.f
      rw [Int.toNat_natCast, hb, onw_inl, List.nil_append]
      simp only [Option.bind_some]
      obtain ⟨r1, r2, r3, r4, r5⟩ := own_rest ho
      have e1 := r1 (by omega); have e2 := r2 (by omega) (by omega); have e4 := r4 (by omega); have e5 := r5 (by omega) (by omega)
      have en : (if Der.kind v = 8 then Der.num v else 0) = Der.num v := by
        by_cases h8 : Der.kind v = 8
        · rw [if_pos h8]
        · rw [if_neg h8, r3 (by omega) h8]
      have ev : Der.mk (Der.kind v) false (Der.num v) [] [] [] (Tree.kids v) = v := by apply Der.ext <;> simp [e1, e2, e4, e5]
      rw [en, ev]
    · rw [if_neg hk]
      have hk' := own_kind ho
      rw [if_neg (fun h => hk (Or.inr (Or.inl h))), (leaf_back ho hv (fun h => hk (Or.inl h)) (fun h => hk (Or.inr (Or.inl h))) (fun h => hk (Or.inr (Or.inr h))) _).2]
      have : (Der.kind v != 0) = true := by rw [bne_iff_ne]; omega
      rw [this]
end Go.Proofs.YtjhknfpociahoaaDoor
