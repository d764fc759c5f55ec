import Derived.Test.YtjhknfpociahoaaDoorDerL13
namespace Go.Proofs.YtjhknfpociahoaaDoor
open Go Go.HW Go.RowKit
set_option linter.unusedVariables false
set_option linter.unusedSimpArgs false

/-- A good reading: a value, where it ends. -/
def Good (b : List Int) (v : Der) (n : Int) : Prop := DOk v ∧ 2 ≤ n ∧ n ≤ (b.length : Int) ∧ (tot v : Int) ≤ n
theorem tots_append : ∀ a b : List Der, tots (a ++ b) = tots a + tots b
  | [], b => by simp [tots]
  | t :: r, b => by rw [List.cons_append, tots, tots, tots_append r b]; omega
theorem nI64 (b : Int) : I64 (nOf b) := by have := nOf_range b; unfold I64; omega
theorem cOf_u8 {b : List Int} (hb : U8L b) (f n : Nat) : U8L (cOf b f n) := fun x hx => hb x (List.mem_of_mem_drop (List.mem_of_mem_take hx))
theorem cOf_len {b : List Int} {f n : Nat} (h : f + n ≤ b.length) : (cOf b f n).length = n := by unfold cOf; simp; omega
theorem pk_two (v : Der) : 2 ≤ (pk v).length := by
  rw [pk_eq, List.length_append]; have := (hdr_len (tagOf v) (cont v (pkL (Tree.kids v))).length).1; omega
theorem rL1_back (r : List Int → Int → Option (Der × Int × Bool)) (d K N : Int) (hd : -9223372036854775807 ≤ d) (hd1 : d ≤ 9223372036854775807) (B : Nat) :
    ∀ (ks : List Der) (y : List Der) (k : Nat), (∀ t ∈ ks, ∀ rest, U8L (pk t ++ rest) → (pk t ++ rest).length ≤ B → r (pk t ++ rest) (d - 1) = some (t, ((pk t).length : Int), true)) → (pkL ks).length ≤ B → (pkL ks).length < k → U8L (pkL ks) → y.length + ks.length ≤ 1099511627776 →
      ref13_read.L1 r d K N k y (pkL ks) = some (.inl (y ++ ks))
  | _, _, 0, _, _, hk, _, _ => by omega
  | [], y, k + 1, _, _, _, _, _ => by rw [ref13_read.L1, pkL]; simp
  | t :: ks, y, k + 1, hr, hB, hk, hu, hy => by
    have h2 := pk_two t
    rw [pkL] at hB hk hu ⊢
    have e := hr t (by simp) (pkL ks) hu hB
    rw [List.length_append] at hB hk
    rw [ref13_read.L1, if_pos (decide_eq_true (by rw [List.length_append]; omega)), w64 (n := d - 1) (by omega) (by omega), e]
    simp only [Option.bind_some, Bool.not_true, Bool.false_eq_true, if_false]
    simp only [List.length_cons] at hy
    rw [rq (by simp; omega), rq (by omega), rq (by rw [List.length_append]; omega), Int.toNat_natCast, List.drop_left]
    rw [rL1_back r d K N hd hd1 B ks (y ++ [t]) k (fun x hx => hr x (by simp [hx])) (by omega) (by omega) (fun z hz => hu z (List.mem_append_right _ hz)) (by simp; omega)]
    simp
theorem rread_back : ∀ (k d : Nat) (v : Der) (rest : List Int), d < k → d ≤ 1000 → mayB d v = true → DOk v → (pk v).length ≤ 65535 → U8L (pk v ++ rest) → (pk v ++ rest).length ≤ 1048576 → ref13_read.f k (pk v ++ rest) (d : Int) = some (v, ((pk v).length : Int), true)
  | 0, d, v, rest, h, _, _, _, _, _, _ => by omega
  | k + 1, 0, v, rest, h, _, hm, _, _, _, _ => by simp [mayB] at hm
  | k + 1, d + 1, v, rest, h, hd, hm, hv, hp, hu, hl => by
    unfold ref13_read.f
    have ho := may_own hm
    obtain ⟨-, -, -, -, hkid⟩ := (DOk_iff v).1 hv
    have hkm := may_kids hm
    have hpe := pk_eq v
    have ht := kOf_tag ho
    have hplen : (pk v).length = (hdr (tagOf v) (cont v (pkL (Tree.kids v))).length).length + (cont v (pkL (Tree.kids v))).length := by rw [hpe, List.length_append]
    obtain ⟨hh, h0⟩ := head_hdr (tagOf v) (cont v (pkL (Tree.kids v))).length (by omega) (cont v (pkL (Tree.kids v)) ++ rest)
    rw [← List.append_assoc, ← hpe] at hh h0
    have hhl := (hdr_len (tagOf v) (cont v (pkL (Tree.kids v))).length).1
    have hc : cOf (pk v ++ rest) (hdr (tagOf v) (cont v (pkL (Tree.kids v))).length).length (cont v (pkL (Tree.kids v))).length = cont v (pkL (Tree.kids v)) := by
      unfold cOf
      rw [hpe, List.append_assoc, List.drop_left, List.take_left]
    rw [rF_eq _ _ hu hl _ (by omega) _ _ hh (by rw [List.length_append]; omega), h0, ht.1, ht.2, hc, ← hplen]
    by_cases hk : Der.kind v = 7 ∨ Der.kind v = 8 ∨ Der.kind v = 9
    · rw [if_pos hk]
      have hcc : cont v (pkL (Tree.kids v)) = pkL (Tree.kids v) := by
        unfold cont; rcases hk with hk | hk | hk <;> simp [hk]
      rw [hcc] at hplen ⊢
      have huk : U8L (pkL (Tree.kids v)) := fun x hx => hu x (List.mem_append_left _ (by rw [hpe, hcc]; exact List.mem_append_right _ hx))
      have hb := rL1_back (ref13_read.f k) ((d + 1 : Nat) : Int) (Der.kind v) (if Der.kind v = 8 then Der.num v else 0) (by omega) (by omega) 65535 (Tree.kids v) [] ((pkL (Tree.kids v)).length + 1) (fun t ht' rest' hu' hl' => by
        rw [show ((d + 1 : Nat) : Int) - 1 = (d : Int) by omega]
        rw [List.length_append] at hl'
        exact rread_back k d t rest' (by omega) (by omega) (hkm t ht') (hkid t ht') (by omega) hu' (by rw [List.length_append]; omega)) (by omega) (by omega) huk (by
          have : (Tree.kids v).length ≤ (pkL (Tree.kids v)).length := by
            rw [pkL_eq]
            have : ∀ l : List Der, l.length ≤ (l.flatMap pk).length := fun l => by
              induction l with
              | nil => simp
              | cons a r ih => rw [List.flatMap_cons, List.length_append, List.length_cons]; have := pk_two a; omega
            exact this _
          simp; omega)
      rw [hb, onw_inl, List.nil_append]
      obtain ⟨r1, r2, r3, r4, r5⟩ := own_rest ho
      have e1 := r1 (by omega); have e2 := r2 (by omega) (by omega); have e4 := r4 (by omega); have e5 := r5 (by omega) (by omega)
      have en : (if Der.kind v = 8 then Der.num v else 0) = Der.num v := by
        by_cases h8 : Der.kind v = 8
        · rw [if_pos h8]
        · rw [if_neg h8, r3 (by omega) h8]
      have ev : Der.mk (Der.kind v) false (Der.num v) [] [] [] (Tree.kids v) = v := by apply Der.ext <;> simp [e1, e2, e4, e5]
      rw [en, ev]
    · rw [if_neg hk]
      have hk' := own_kind ho
      rw [if_neg (fun h => hk (Or.inr (Or.inl h))), (leaf_back ho hv (fun h => hk (Or.inl h)) (fun h => hk (Or.inr (Or.inl h))) (fun h => hk (Or.inr (Or.inr h))) _).1]
      have : (Der.kind v != 0) = true := by rw [bne_iff_ne]; omega
      rw [this]
end Go.Proofs.YtjhknfpociahoaaDoor
