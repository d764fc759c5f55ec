import Derived.Test.YtjhknfpociahoaaDoorDerL5
namespace Go.Proofs.YtjhknfpociahoaaDoor
open Go Go.HW Go.RowKit
set_option linter.unusedVariables false
set_option linter.unusedSimpArgs false

/-! ### a value's bytes -/
def hdr (t : Int) (n : Nat) : List Int := if n < 128 then [t, (n : Int)] else if n < 256 then [t, 129, (n : Int)] else [t, 130, ((n / 256 % 256 : Nat) : Int), ((n % 256 : Nat) : Int)]
def oidC (a : List Int) : List Int := grp (40 * (a.getD 0 0).toNat + (a.getD 1 0).toNat) ++ (a.drop 2).flatMap fun x => grp x.toNat
/-- The content; 'kb': of the kids. -/
def cont (v : Der) (kb : List Int) : List Int :=
  if Der.kind v = 1 then (if Der.flag v then [255] else [0]) else if Der.kind v = 2 then whl (Der.num v) else if Der.kind v = 3 then 0 :: Der.bytes v
  else if Der.kind v = 4 then Der.bytes v else if Der.kind v = 5 then oidC (Der.arcs v) else if Der.kind v = 6 ∨ Der.kind v = 10 then numsL (Der.text v) else kb
mutual
def pk : Der → List Int
  | .node p ks => hdr (tagOf (.node p ks)) (cont (.node p ks) (pkL ks)).length ++ cont (.node p ks) (pkL ks)
def pkL : List Der → List Int
  | [] => []
  | t :: r => pk t ++ pkL r
end
mutual
/-- As the code packs it: what is too long is noughts. -/
def pkd : Der → List Int
  | .node p ks => if 65535 < (cont (.node p ks) (pkdL ks)).length then List.replicate 65536 0 else hdr (tagOf (.node p ks)) (cont (.node p ks) (pkdL ks)).length ++ cont (.node p ks) (pkdL ks)
def pkdL : List Der → List Int
  | [] => []
  | t :: r => pkd t ++ pkdL r
end
theorem pk_eq (v : Der) : pk v = hdr (tagOf v) (cont v (pkL (Tree.kids v))).length ++ cont v (pkL (Tree.kids v)) := by cases v; rw [pk]; rfl
theorem pkd_eq (v : Der) : pkd v = if 65535 < (cont v (pkdL (Tree.kids v))).length then List.replicate 65536 0 else hdr (tagOf v) (cont v (pkdL (Tree.kids v))).length ++ cont v (pkdL (Tree.kids v)) := by cases v; rw [pkd]; rfl
theorem hdr_len (t : Int) (n : Nat) : 2 ≤ (hdr t n).length ∧ (hdr t n).length ≤ 4 := by unfold hdr; split; (· simp); split <;> simp
theorem flat_len {α : Type} (f : α → List Int) (B : Nat) (h : ∀ x, (f x).length ≤ B) : ∀ l : List α, (l.flatMap f).length ≤ B * l.length
  | [] => by simp
  | a :: r => by rw [List.flatMap_cons, List.length_append, List.length_cons, Nat.mul_add]; have := h a; have := flat_len f B h r; omega
theorem oid_len (a : List Int) : (oidC a).length ≤ 11 + 11 * a.length := by
  unfold oidC
  rw [List.length_append]
  have h1 := grp_len (40 * (a.getD 0 0).toNat + (a.getD 1 0).toNat)
  have h2 := flat_len (fun x : Int => grp x.toNat) 11 (fun x => grp_len _) (a.drop 2)
  rw [List.length_drop] at h2
  have : 11 * (a.length - 2) ≤ 11 * a.length := Nat.mul_le_mul_left _ (by omega)
  omega
theorem cont_len (v : Der) (kb : List Int) : (cont v kb).length ≤ 11 + (Der.bytes v).length + (Der.text v).length + 11 * (Der.arcs v).length + kb.length := by
  unfold cont
  have h1 := oid_len (Der.arcs v)
  have h2 : (whl (Der.num v)).length ≤ 8 := by unfold whl; rw [be_len]; exact (szN_le _).2
  have h3 : (numsL (Der.text v)).length = (Der.text v).length := by unfold numsL; simp
  repeat' split
  all_goals first | omega | (simp; omega)
mutual
theorem pk_len : ∀ v : Der, (pk v).length ≤ 32 * tot v
  | .node p ks => by
    rw [pk_eq, List.length_append]
    have h1 := hdr_len (tagOf (.node p ks)) (cont (.node p ks) (pkL ks)).length
    have h2 := cont_len (.node p ks) (pkL ks)
    have h3 := pkL_len ks
    have h4 : tot (.node p ks) = 1 + (Der.bytes (.node p ks)).length + (Der.text (.node p ks)).length + (Der.arcs (.node p ks)).length + tots ks := tot_eq (.node p ks)
    show (hdr (tagOf (.node p ks)) (cont (.node p ks) (pkL ks)).length).length + (cont (.node p ks) (pkL ks)).length ≤ _
    omega
theorem pkL_len : ∀ ks : List Der, (pkL ks).length ≤ 32 * tots ks
  | [] => by simp [pkL]
  | t :: r => by
    rw [pkL, tots, List.length_append]
    have := pk_len t
    have := pkL_len r
    omega
end
/-- The content does not look at the kids, or is theirs. -/
theorem cont_kb (v : Der) : (∀ a b, cont v a = cont v b) ∨ ∀ a, cont v a = a := by
  unfold cont
  by_cases h1 : Der.kind v = 1
  · left; intro a b; simp [h1]
  by_cases h2 : Der.kind v = 2
  · left; intro a b; simp [h2]
  by_cases h3 : Der.kind v = 3
  · left; intro a b; simp [h3]
  by_cases h4 : Der.kind v = 4
  · left; intro a b; simp [h4]
  by_cases h5 : Der.kind v = 5
  · left; intro a b; simp [h5]
  by_cases h6 : Der.kind v = 6 ∨ Der.kind v = 10
  · left; intro a b; simp [h1, h2, h3, h4, h5, h6]
  · right; intro a; simp [h1, h2, h3, h4, h5, h6]
mutual
theorem pk_rel : ∀ v : Der, pkd v = pk v ∨ (65536 ≤ (pkd v).length ∧ 65536 ≤ (pk v).length)
  | .node p ks => by
    have ih := pkL_rel ks
    rw [pk_eq, pkd_eq]
    have e : Tree.kids (Tree.node p ks) = ks := rfl
    rw [e]
    rcases cont_kb (.node p ks) with hk | hk
    · rw [hk (pkdL ks) (pkL ks)]
      split
      · right; rw [List.length_append, List.length_replicate]; omega
      · left; rfl
    · rw [hk, hk]
      rcases ih with ih | ⟨h1, h2⟩
      · rw [ih]
        split
        · right; rw [List.length_append, List.length_replicate]; omega
        · left; rfl
      · rw [if_pos (by omega)]
        right; rw [List.length_append, List.length_replicate]; omega
theorem pkL_rel : ∀ ks : List Der, pkdL ks = pkL ks ∨ (65536 ≤ (pkdL ks).length ∧ 65536 ≤ (pkL ks).length)
  | [] => by left; rw [pkdL, pkL]
  | t :: r => by
    rw [pkdL, pkL]
    rcases pk_rel t with h | ⟨h1, h2⟩
    · rcases pkL_rel r with h' | ⟨h1, h2⟩
      · left; rw [h, h']
      · right; rw [List.length_append, List.length_append]; omega
    · right; rw [List.length_append, List.length_append]; omega
end
/-! ### what 'own' says -/
end Go.Proofs.YtjhknfpociahoaaDoor
