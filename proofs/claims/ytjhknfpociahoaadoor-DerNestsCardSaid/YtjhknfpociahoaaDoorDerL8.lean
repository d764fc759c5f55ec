import Derived.Test.YtjhknfpociahoaaDoorDerL7
namespace Go.Proofs.YtjhknfpociahoaaDoor
open Go Go.HW Go.RowKit
set_option linter.unusedVariables false
set_option linter.unusedSimpArgs false

theorem known_eq : law13_known.f = some true := by kernel_rfl
theorem U8L.append {a b : List Int} (ha : U8L a) (hb : U8L b) : U8L (a ++ b) := fun x hx => (List.mem_append.1 hx).elim (ha x) (hb x)
theorem U8L.nil : U8L [] := fun x hx => by cases hx
theorem U8L.cons {x : Int} {l : List Int} (h0 : 0 ≤ x) (h1 : x ≤ 255) (hl : U8L l) : U8L (x :: l) := fun y hy => by
  rcases List.mem_cons.1 hy with rfl | hy
  · exact ⟨h0, h1⟩
  · exact hl y hy
theorem be_u8 : ∀ s m, U8L (be s m)
  | 0, m => U8L.nil
  | s + 1, m => (be_u8 s _).append (U8L.cons (by omega) (by omega) U8L.nil)
theorem hi7_u8 : ∀ k n, U8L (hi7 k n)
  | 0, n => U8L.nil
  | k + 1, n => by
    unfold hi7
    split
    · exact U8L.nil
    · exact (hi7_u8 k _).append (U8L.cons (by omega) (by omega) U8L.nil)
theorem grp_u8 (n : Nat) : U8L (grp n) := (hi7_u8 10 _).append (U8L.cons (by omega) (by omega) U8L.nil)
theorem flat_u8 {α : Type} (f : α → List Int) : ∀ l : List α, (∀ x ∈ l, U8L (f x)) → U8L (l.flatMap f)
  | [], _ => U8L.nil
  | a :: r, h => by rw [List.flatMap_cons]; exact (h a (by simp)).append (flat_u8 f r fun x hx => h x (by simp [hx]))
theorem nums_u8 (s : List UInt8) : U8L (numsL s) := fun x hx => by
  unfold numsL at hx
  obtain ⟨b, -, rfl⟩ := List.mem_map.1 hx
  have := b.toNat_lt
  omega
theorem hdr_u8 {t : Int} (h0 : 0 ≤ t) (h1 : t ≤ 255) (n : Nat) : U8L (hdr t n) := by
  unfold hdr
  split
  · exact U8L.cons h0 h1 (U8L.cons (by omega) (by omega) U8L.nil)
  · split
    · exact U8L.cons h0 h1 (U8L.cons (by omega) (by omega) (U8L.cons (by omega) (by omega) U8L.nil))
    · exact U8L.cons h0 h1 (U8L.cons (by omega) (by omega) (U8L.cons (by omega) (by omega) (U8L.cons (by omega) (by omega) U8L.nil)))
theorem cont_u8 {v : Der} (hv : DOk v) {kb : List Int} (hk : U8L kb) : U8L (cont v kb) := by
  obtain ⟨-, -, hb, -, -⟩ := (DOk_iff v).1 hv
  unfold cont
  repeat' split
  · exact U8L.cons (by omega) (by omega) U8L.nil
  · exact U8L.cons (by omega) (by omega) U8L.nil
  · exact be_u8 _ _
  · exact U8L.cons (by omega) (by omega) hb
  · exact hb
  · exact (grp_u8 _).append (flat_u8 _ _ fun x _ => grp_u8 _)
  · exact nums_u8 _
  · exact hk
theorem pk_u8 : ∀ (k d : Nat) (v : Der), Tree.depth v ≤ k → mayB d v = true → DOk v → U8L (pk v)
  | 0, d, v, h, _, _ => by have := depth_pos v; omega
  | k + 1, d, v, h, hm, hv => by
    obtain ⟨-, -, -, -, hkid⟩ := (DOk_iff v).1 hv
    have ht := tag_range (may_own hm)
    rw [pk_eq]
    refine (hdr_u8 (by omega) (by omega) _).append (cont_u8 hv ?_)
    rw [pkL_eq]
    exact flat_u8 pk _ fun t hmem => by
      obtain ⟨e, he⟩ := may_kids' hm t hmem
      exact pk_u8 k e t (by have := depth_kid hmem; omega) he (hkid t hmem)

/-! ### whole numbers: as few bytes as can be; unlike numbers have unlike ones -/
end Go.Proofs.YtjhknfpociahoaaDoor
