import Derived.Test.YtjhknfpociahoaaDoorDerL7
namespace Go.Proofs.YtjhknfpociahoaaDoor
open Go Go.HW Go.RowKit
set_option linter.unusedVariables false
set_option linter.unusedSimpArgs false

theorem known_eq : law13_known.f = some true := by kernel_rfl
theorem U8L.append {a b : List Int} (ha : U8L a) (hb : U8L b) : U8L (a ++ b) := fun x hx => (List.mem_append.1 hx).elim (ha x) (hb x)
theorem U8L.nil : U8L [] := fun x hx => by cases hx
theorem U8L.cons {x : Int} {l : List Int} (h0 : 0 ≤ x) (h1 : x ≤ 255) (hl : U8L l) : U8L (x :: l) := fun y hy => by
  rcases List.mem_cons.1 hy with rfl | hy
  · exact ⟨h0, h1⟩
  · exact hl y hy
theorem be_u8 : ∀ s m, U8L (be s m)
  | 0, m => U8L.nil
  | s + 1, m => (be_u8 s _).append (U8L.cons (by omega) (by omega) U8L.nil)
theorem hi7_u8 : ∀ k n, U8L (hi7 k n)
  | 0, n => U8L.nil
  | k + 1, n => by
    unfold hi7
    split
    · exact U8L.nil
    · exact (hi7_u8 k _).append (U8L.cons (by omega) (by omega) U8L.nil)
theorem grp_u8 (n : Nat) : U8L (grp n) := (hi7_u8 10 _).append (U8L.cons (by omega) (by omega) U8L.nil)
theorem flat_u8 {α : Type} (f : α → List Int) : ∀ l : List α, (∀ x ∈ l, U8L (f x)) → U8L (l.flatMap f)
  | [], _ => U8L.nil
  | a :: r, h => by rw [List.flatMap_cons]; exact (h a (by simp)).append (flat_u8 f r fun x hx => h x (by simp [hx]))
theorem nums_u8 (s : List UInt8) : U8L (numsL s) := fun x hx => by
  unfold numsL at hx
  obtain ⟨b, -, rfl⟩ := List.mem_map.1 hx
  have := b.toNat_lt
  omega
theorem hdr_u8 {t : Int} (h0 : 0 ≤ t) (h1 : t ≤ 255) (n : Nat) : U8L (hdr t n) := by
  unfold hdr
  split
  · exact U8L.cons h0 h1 (U8L.cons (by omega) (by omega) U8L.nil)
  · split
    · exact U8L.cons h0 h1 (U8L.cons (by omega) (by omega) (U8L.cons (by omega) (by omega) U8L.nil))
    · exact U8L.cons h0 h1 (U8L.cons (by omega) (by omega) (U8L.cons (by omega) (by omega) (U8L.cons (by omega) (by omega) U8L.nil)))
theorem cont_u8 {v : Der} (hv : DOk v) {kb : List Int} (hk : U8L kb) : U8L (cont v kb) := by
  obtain ⟨-, -, hb, -, -⟩ := (DOk_iff v).1 hv
  unfold cont
  repeat' split
  · exact U8L.cons (by omega) (by omega) U8L.nil
  · exact U8L.cons (by omega) (by omega) U8L.nil
  · exact be_u8 _ _
  · exact U8L.cons (by omega) (by omega) hb
  · exact hb
  · exact (grp_u8 _).append (flat_u8 _ _ fun x _ => grp_u8 _)
  · exact nums_u8 _
  · exact hk
theorem pk_u8 : ∀ (k d : Nat) (v : Der), Tree.depth v ≤ k → mayB d v = true → DOk v → U8L (pk v)
  | 0, d, v, h, _, _ => by have := depth_pos v; omega
  | k + 1, d, v, h, hm, hv => by
    obtain ⟨-, -, -, -, hkid⟩ := (DOk_iff v).1 hv
    have ht := tag_range (may_own hm)
    rw [pk_eq]
    refine (hdr_u8 (by omega) (by omega) _).append (cont_u8 hv ?_)
    rw [pkL_eq]
    exact flat_u8 pk _ fun t hmem => by
      obtain ⟨e, he⟩ := may_kids' hm t hmem
      exact pk_u8 k e t (by have := depth_kid hmem; omega) he (hkid t hmem)

/-! ### whole numbers: as few bytes as can be; unlike numbers have unlike ones -/
theorem szF_spec (n : Int) : ∀ k s, (szF n k s < s + k → fits n (szF n k s)) ∧ (s < szF n k s → ¬ fits n (szF n k s - 1))
  | 0, s => by unfold szF; exact ⟨fun h => by omega, fun h => by omega⟩
  | k + 1, s => by
    unfold szF
    split
    · exact ⟨fun _ => by assumption, fun h => by omega⟩
    · rename_i hc
      have ih := szF_spec n k (s + 1)
      have hle := szF_le n k (s + 1)
      refine ⟨fun h => ih.1 (by omega), fun h => ?_⟩
      rcases Nat.lt_or_ge (s + 1) (szF n k (s + 1)) with h' | h'
      · exact ih.2 h'
      · have : szF n k (s + 1) = s + 1 := by omega
        rw [this]; exact hc
theorem szN_fits {n : Int} (h : szN n < 8) : fits n (szN n) := (szF_spec n 7 1).1 (by unfold szN at h; omega)
theorem m64_mod (n : Int) (s : Nat) (hs : s ≤ 8) : ((m64 n % 256 ^ s : Nat) : Int) = n % ((256 ^ s : Nat) : Int) := by
  unfold m64
  rcases (show s = 0 ∨ s = 1 ∨ s = 2 ∨ s = 3 ∨ s = 4 ∨ s = 5 ∨ s = 6 ∨ s = 7 ∨ s = 8 by omega) with rfl | rfl | rfl | rfl | rfl | rfl | rfl | rfl | rfl <;> simp only [Nat.reducePow] <;> omega
theorem fits8 {n : Int} (h : I64 n) : fits n 8 := by unfold fits; simp only [Nat.reduceMul, Nat.reduceSub, Int.reducePow]; have := h.1; have := h.2; omega
theorem fitsN {n : Int} (h : I64 n) : fits n (szN n) := by
  rcases Nat.lt_or_ge (szN n) 8 with h8 | h8
  · exact szN_fits h8
  · have : szN n = 8 := by have := szN_le n; omega
    rw [this]; exact fits8 h
end Go.Proofs.YtjhknfpociahoaaDoor
