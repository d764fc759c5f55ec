import Derived.Test.YtjhknfpociahoaaDoorDerL17
namespace Go.Proofs.YtjhknfpociahoaaDoor
open Go Go.HW Go.RowKit
set_option linter.unusedVariables false
set_option linter.unusedSimpArgs false

theorem hdr_head {tag : Int} {c : List Int} (h : c.length ≤ 65000) : ((if (decide (127 < (c.length : Int))) = true then (some [tag, 129, IntKind.u8.wrap (c.length : Int)]) else (some [tag, IntKind.u8.wrap (c.length : Int)])).bind fun j => if (decide (255 < (c.length : Int))) = true then (some [tag, 130, IntKind.u8.wrap (IntKind.i64.wrap (Int.tdiv (c.length : Int) 256)), IntKind.u8.wrap (Int.tmod (c.length : Int) 256)]) else (some j)) = some (hdr tag c.length) := by
  have e1 : Int.tdiv (c.length : Int) 256 = ((c.length / 256 : Nat) : Int) := td c.length 256
  have e2 : Int.tmod (c.length : Int) 256 = ((c.length % 256 : Nat) : Int) := rfl
  unfold hdr
  by_cases c1 : c.length < 128
  · rw [if_neg (by simp; omega), Option.bind_some, if_neg (by simp; omega), if_pos c1, wu8 (by omega) (by omega)]
  · by_cases c2 : c.length < 256
    · rw [if_pos (by simp; omega), Option.bind_some, if_neg (by simp; omega), if_neg c1, if_pos c2, wu8 (by omega) (by omega)]
    · rw [if_pos (by simp; omega), Option.bind_some, if_pos (by simp; omega), if_neg c1, if_neg c2]
      rw [e1, e2]
      rw [w64 (by omega) (by omega), wu8 (by omega) (by omega), wu8 (by omega) (by omega), show c.length / 256 % 256 = c.length / 256 by omega]
theorem holds_eq {tag : Int} {v : Der} {c : List Int} (ht : tot v ≤ 1048576) (hv : DOk v) (hc : U8L c) (hl : c.length ≤ 100000000) (h0 : 0 ≤ tag) (h1 : tag ≤ 255) (h : mayB 12 v = true → pk v = hdr tag c.length ++ c) : law13_holds.f tag v c = some true := by
  unfold law13_holds.f
  rw [dBytes_eq v ht hv, dMay_eq v ht]
  unfold bytesR
  cases hm : mayB 12 v with
  | false => rfl
  | true =>
    have hp := h hm
    have hh := hdr_len tag c.length
    by_cases hlen : (pk v).length ≤ 65000
    · have hcl : c.length ≤ 65000 := by rw [hp, List.length_append] at hlen; omega
      simp only [if_pos hlen, if_true, Option.bind_some, law13_num.f, bne_self_eq_false, Bool.false_eq_true, if_false, nmE]
      rw [← Option.bind_assoc, hdr_head hcl, Option.bind_some]
      rw [rq (by simp [bytesL]; omega), hp]
      simp [bytesL]
    · have hcl : 64996 < (c.length : Int) := by rw [hp, List.length_append] at hlen; omega
      simp only [if_neg hlen, if_true, Option.bind_some, law13_num.f]
      simp [hcl]
theorem nests_L0 (l : List Der) : ∀ (m i k : Nat) (x : Int), 41 - i ≤ m → m < k → i ≤ 41 → 0 ≤ x → x ≤ 600 →
    law13_DerNests.L0 l k x (i : Int) = some (.inr true) ∨ (law13_DerNests.L0 l k x (i : Int) = some (.inl ()) ∧ (l.length ≤ 40 → (tots (l.drop i) : Int) ≤ 200 * (600 - x)))
  | m, i, 0, x, _, hk, _, _, _ => by omega
  | m, i, k + 1, x, hm, hk, hi, hx0, hx1 => by
    rw [law13_DerNests.L0]
    by_cases c : i < l.length
    · have c' : (i : Int) < (l.length : Int) := by omega
      by_cases c2 : i ≤ 40
      · have c2' : (i : Int) ≤ 40 := by omega
        simp only [c', c2', decide_true, if_true, Option.bind_some, nmE, Int.toNat_natCast]
        obtain ⟨z, e, z0, z1, z2⟩ := big_total (Der.fuel (l.getD i Der.dflt)) (l.getD i Der.dflt) 600 (Nat.le_refl _) (by decide) (by decide)
        have ef : law13_few.f (l.getD i Der.dflt) = some (decide (0 ≤ z)) := by unfold law13_few.f; rw [e]; rfl
        rw [rq (show (0 : Int) ≤ (i : Int) by omega), reqTT, e, Option.bind_some, ef, Option.bind_some]
        generalize hy : (if z < 0 then (0 : Int) else z) = y
        have hy0 : 0 ≤ y ∧ y ≤ 599 := by subst hy; split <;> omega
        rw [w64 (n := x + 600) (by omega) (by omega), w64 (n := x + 600 - y) (by omega) (by omega)]
        by_cases c3 : 0 ≤ z
        · have hyz : y = z := by subst hy; rw [if_neg (by omega)]
          subst hyz
          by_cases c4 : 600 < x + 600 - y
          · left; simp [c3, c4, known_eq]
          · simp only [c3, c4, decide_true, decide_false, Bool.not_true, Bool.false_eq_true, if_false, Option.bind_some]
            rw [show IntKind.i64.wrap ((i : Int) + 1) = ((i + 1 : Nat) : Int) by rw [w64 (by omega) (by omega)]; omega]
            rcases nests_L0 l (m - 1) (i + 1) k (x + 600 - y) (by omega) (by omega) (by omega) (by omega) (by omega) with h | ⟨h, h'⟩
            · exact Or.inl h
            · refine Or.inr ⟨h, fun hl => ?_⟩
              have hd : l.drop i = l.getD i Der.dflt :: l.drop (i + 1) := by
                rw [List.drop_eq_getElem_cons c]; simp [List.getElem?_eq_getElem c]
              rw [hd, tots]
              have := z2 c3
              have := h' hl
              omega
        · left; simp [c3, known_eq]
      · right
        have c2' : ¬ (i : Int) ≤ 40 := by omega
        simp only [c', c2', decide_true, decide_false, if_true, Option.bind_some, Bool.false_eq_true, if_false]
        exact ⟨trivial, fun hl => by omega⟩
    · right
      have c' : ¬ (i : Int) < (l.length : Int) := by omega
      simp only [c', decide_false, Bool.false_eq_true, if_false, Option.bind_some]
      refine ⟨trivial, fun hl => ?_⟩
      rw [List.drop_eq_nil_of_le (by omega), tots]; omega
theorem nests_L1 (l : List Der) (hl : l.length ≤ 40) (ho : ∀ t ∈ l, DOk t ∧ tot t ≤ 1048576) : ∀ (m i k : Nat) (y : List Int), l.length - i ≤ m → m < k → i ≤ l.length → y.length ≤ 65000 * i →
    law13_DerNests.L1 l k y (i : Int) = some (.inr true) ∨ (law13_DerNests.L1 l k y (i : Int) = some (.inl (y ++ pkL (l.drop i))) ∧ (pkL (l.drop i)).length ≤ 65000 * (l.length - i) ∧ ∀ t ∈ l.drop i, mayB 12 t = true)
  | m, i, 0, y, _, hk, _, _ => by omega
  | m, i, k + 1, y, hm, hk, hi, hy => by
    rw [law13_DerNests.L1]
    by_cases c : i < l.length
    · have c' : (i : Int) < (l.length : Int) := by omega
      obtain ⟨h1, h2⟩ := ho _ (getD_mem (d := Der.dflt) c)
      have hd : l.drop i = l.getD i Der.dflt :: l.drop (i + 1) := by
        rw [List.drop_eq_getElem_cons c]; simp [List.getElem?_eq_getElem c]
      simp only [c', decide_true, if_true, nmE, Int.toNat_natCast]
      rw [rq (show (0 : Int) ≤ (i : Int) by omega), reqTT, dBytes_eq _ h2 h1]
      unfold bytesR
      cases hmay : mayB 12 (l.getD i Der.dflt) with
      | false => left; simp [law13_num.f, known_eq]
      | true =>
        by_cases hp : (pk (l.getD i Der.dflt)).length ≤ 65000
        · simp only [if_pos hp, if_true, Option.bind_some, law13_num.f, bne_self_eq_false, Bool.false_eq_true, if_false]
          rw [rq (by omega), show IntKind.i64.wrap ((i : Int) + 1) = ((i + 1 : Nat) : Int) by rw [w64 (by omega) (by omega)]; omega]
          rcases nests_L1 l hl ho (m - 1) (i + 1) k (y ++ pk (l.getD i Der.dflt)) (by omega) (by omega) (by omega) (by rw [List.length_append]; omega) with h | ⟨h, h3, h4⟩
          · exact Or.inl h
          · refine Or.inr ⟨?_, ?_, ?_⟩
            · rw [h, hd, pkL, List.append_assoc]
            · rw [hd, pkL, List.length_append]; omega
            · rw [hd]
              intro t ht
              rcases List.mem_cons.1 ht with rfl | ht
              · exact hmay
              · exact h4 t ht
        · left; simp only [if_neg hp, if_true, Option.bind_some, law13_num.f, show ((3 : Int) != 0) = true from rfl, known_eq]
    · right
      have c' : ¬ (i : Int) < (l.length : Int) := by omega
      have hd : l.drop i = [] := List.drop_eq_nil_of_le (by omega)
      simp only [c', decide_false, Bool.false_eq_true, if_false, hd, pkL, List.append_nil]
      exact ⟨trivial, by simp, fun t ht => by cases ht⟩
theorem pk_kids {K n : Int} {ks : List Der} (h : K = 7 ∨ K = 9 ∨ K = 8) : pk (Der.mk K false n [] [] [] ks) = hdr (tagOf (Der.mk K false n [] [] [] ks)) (pkL ks).length ++ pkL ks := by
  rw [pk_eq]
  have e : cont (Der.mk K false n [] [] [] ks) (pkL ks) = pkL ks := by
    unfold cont
    rcases h with rfl | rfl | rfl <;> rfl
  rw [show Tree.kids (Der.mk K false n [] [] [] ks) = ks from rfl, e]
theorem DerNests_law {l : List Der} (hl : ∀ t ∈ l, DOk t) (n : Int) (hn : I64 n) : law13_DerNests.f l n = some true := by
  unfold law13_DerNests.f
  rcases nests_L0 l 41 0 ((40 : Int).toNat + 2) 0 (by omega) (by decide) (by omega) (by omega) (by omega) with h | ⟨h, h'⟩
  · rw [show (0 : Int) = ((0 : Nat) : Int) from rfl] at *
    rw [h]; rfl
  · rw [show law13_DerNests.L0 l ((40 : Int).toNat + 2) 0 0 = some (.inl ()) from h]
    unfold onw
    simp only
    by_cases c : l.length ≤ 40
    · have ht := h' c
      rw [List.drop_zero] at ht
      rw [if_neg (by simp; omega)]
      have ho : ∀ t ∈ l, DOk t ∧ tot t ≤ 1048576 := fun t h => ⟨hl t h, by have := tots_mem t h; omega⟩
      rcases nests_L1 l c ho l.length 0 ((l.length : Int).toNat + 1) [] (by omega) (by omega) (by omega) (by simp) with g | ⟨g, g1, g2⟩
      · rw [show law13_DerNests.L1 l ((l.length : Int).toNat + 1) [] 0 = some (.inr true) from g]
      · rw [show law13_DerNests.L1 l ((l.length : Int).toNat + 1) [] 0 = some (.inl ([] ++ pkL (l.drop 0))) from g]
        rw [List.drop_zero] at g1 g2
        simp only [List.nil_append, List.drop_zero]
        have hu : U8L (pkL l) := by
          rw [pkL_eq]
          exact flat_u8 pk l fun t h => pk_u8 _ 12 t (Nat.le_refl _) (g2 t h) (hl t h)
        have hseq : der_Seq.f l = some (Der.mk 7 false 0 [] [] [] l) := by
          unfold der_Seq.f slices_Clone_40.f
          rw [rq (by simp; omega)]; rfl
        have hno : U64L ([] : List Int) := fun x hx => by cases hx
        have hlen : (pkL l).length ≤ 100000000 := by omega
        have tt : ∀ K N, tot (Der.mk K false N [] [] [] l) ≤ 1048576 := fun K N => by
          rw [tot_eq]
          show 1 + 0 + 0 + 0 + tots l ≤ _
          omega
        have h48 : law13_holds.f 48 (Der.mk 7 false 0 [] [] [] l) (pkL l) = some true :=
          holds_eq (tt 7 0) (mk_ok (by omega) ⟨by decide, by decide⟩ U8L.nil hno hl) hu hlen (by decide) (by decide) fun _ => pk_kids (Or.inl rfl)
        rw [hseq, Option.bind_some, h48, Option.bind_some]
        simp only [Bool.not_true, Bool.false_eq_true, if_false]
        match l, hl, tt, hu, hlen, h48 with
        | [], _, _, _, _, _ => simp [known_eq]
        | a :: b :: r, _, _, _, _, _ =>
          rw [if_pos (by simp; omega)]
          rw [known_eq]; rfl
        | [v], hl, tt, hu, hlen, h48 =>
          have h49 : law13_holds.f 49 (Der.mk 9 false 0 [] [] [] [v]) (pkL [v]) = some true :=
            holds_eq (tt 9 0) (mk_ok (by omega) ⟨by decide, by decide⟩ U8L.nil hno hl) hu hlen (by decide) (by decide) fun _ => pk_kids (Or.inr (Or.inl rfl))
          rw [if_neg (by simp), rq (by simp)]
          simp only [nmE, show (0 : Int).toNat = 0 from rfl, List.getD_cons_zero, der_Set.f, der_Tag.f, Option.bind_some, h49, if_true, known_eq]
          by_cases c0 : n < 0
          · simp [c0]
          · by_cases c1 : 30 < n
            · simp [c0, c1]
            · have h160 : law13_holds.f (160 + n) (Der.mk 8 false n [] [] [] [v]) (pkL [v]) = some true :=
                holds_eq (tt 8 n) (mk_ok (by omega) hn U8L.nil hno hl) hu hlen (by omega) (by omega) fun hm => by
                  rw [pk_kids (Or.inr (Or.inr rfl)), tag8 (may_own hm) rfl]; rfl
              rw [w64 (n := 160 + n) (by omega) (by omega), wu8 (by omega) (by omega), h160]
              simp [c0, c1]
    · rw [if_pos (by simp; omega), known_eq]; rfl
end Go.Proofs.YtjhknfpociahoaaDoor
