import Derived.Test.YtjhknfpociahoaaDoorDerL15
namespace Go.Proofs.YtjhknfpociahoaaDoor
open Go Go.HW Go.RowKit
set_option linter.unusedVariables false
set_option linter.unusedSimpArgs false

/-- Is it the value of these bytes? -/
def IsOf (b : List Int) (v : Der) : Prop := DOk v ∧ mayB 12 v = true ∧ pk v = b ∧ b.length ≤ 65000 ∧ tot v ≤ b.length
theorem isOf_reads {b : List Int} (hb : U8L b) {v : Der} (hv : DOk v) (hm : mayB 12 v = true) (hp : pk v = b) (hl : b.length ≤ 65000) : der_value.f 13 b 12 = some (v, (b.length : Int), true) ∧ ref13_read.f 13 b 12 = some (v, (b.length : Int), true) ∧ IsOf b v := by
  have h1 := dread_back 13 12 v [] (by decide) (by decide) hm hv (by rw [hp]; omega) (by rw [List.append_nil, hp]; exact hb) (by rw [List.append_nil, hp]; omega)
  have h2 := rread_back 13 12 v [] (by decide) (by decide) hm hv (by rw [hp]; omega) (by rw [List.append_nil, hp]; exact hb) (by rw [List.append_nil, hp]; omega)
  rw [List.append_nil, hp] at h1 h2
  obtain ⟨v', n', ok', e, hg⟩ := dread_total 13 12 b (by decide) (by decide) hb (by omega)
  have e2 := h1.symm.trans e
  simp only [Option.some.injEq, Prod.mk.injEq] at e2
  obtain ⟨rfl, rfl, rfl⟩ := e2
  obtain ⟨-, -, -, g4⟩ := hg rfl
  exact ⟨h1, h2, hv, hm, hp, hl, by omega⟩
theorem of_yes {b : List Int} (hb : U8L b) {v : Der} (hv : DOk v) (hm : mayB 12 v = true) (hp : pk v = b) (hl : b.length ≤ 65000) : der_Of.f b = some (v, 0) ∧ ref13_Of.f b = some (v, true) ∧ IsOf b v := by
  obtain ⟨h1, h2, h3⟩ := isOf_reads hb hv hm hp hl
  have ht : tot v ≤ 1048576 := by have := h3.2.2.2.2; omega
  have hnl : ¬ (65000 : Int) < b.length := by omega
  have hpd : der_pack.f (Der.fuel v) v = some b := by
    rw [show der_pack.f (Der.fuel v) v = some (pkd v) from dpack _ 12 v (Nat.le_refl _) ht hm hv, pk_short (by rw [hp]; exact hl), hp]
  have hpr : ref13_Pack.f (Der.fuel v) v = some b := by
    rw [show ref13_Pack.f (Der.fuel v) v = some (pk v) from rpack _ 12 v (Nat.le_refl _) ht hm hv, hp]
  refine ⟨?_, ?_, h3⟩
  · unfold der_Of.f
    rw [if_neg (by simpa using hnl), show ((12 : Int).toNat + 1) = 13 from rfl, h1]
    simp [dMay_eq v ht, hm, hpd, eq35 b b (by omega)]
  · unfold ref13_Of.f
    rw [if_neg (by simpa using hnl), show ((12 : Int).toNat + 1) = 13 from rfl, h2]
    have := rMay_eq v ht
    rw [show ((12 : Int).toNat + 1) = 13 from rfl] at this
    simp [this, hm, hpr]
theorem of_no {b : List Int} (hb : U8L b) (hl : b.length ≤ 1048576) (h : ¬ ∃ v, IsOf b v) : der_Of.f b = some (Der.dflt, 4) ∧ ref13_Of.f b = some (Der.dflt, false) := by
  by_cases hnl : 65000 < b.length
  · constructor
    · unfold der_Of.f; rw [if_pos (decide_eq_true (by omega))]; rfl
    · unfold ref13_Of.f; rw [if_pos (decide_eq_true (by omega))]; rfl
  · have hnl' : ¬ (65000 : Int) < b.length := by omega
    constructor
    · unfold der_Of.f
      obtain ⟨v, n, ok, e, hg⟩ := dread_total 13 12 b (by decide) (by decide) hb hl
      have e' : der_value.f ((12 : Int).toNat + 1) b 12 = some (v, n, ok) := e
      rw [if_neg (by simpa using hnl'), e']
      simp only [Option.bind_some]
      cases ok with
      | false => rfl
      | true =>
        obtain ⟨g1, g2, g3, g4⟩ := hg rfl
        have ht : tot v ≤ 1048576 := by omega
        by_cases hn : n = (b.length : Int)
        · have : (n != (b.length : Int)) = false := by rw [hn]; simp
          simp only [Bool.not_true, Bool.false_eq_true, if_false, this, Option.bind_some, dMay_eq v ht]
          cases hm : mayB 12 v with
          | false => rfl
          | true =>
            have hpd : der_pack.f (Der.fuel v) v = some (pkd v) := dpack _ 12 v (Nat.le_refl _) ht hm g1
            have hne : (pkd v == b) = false := by
              rw [beq_eq_false_iff_ne]
              intro hx
              refine h ⟨v, g1, hm, ?_, by omega, by omega⟩
              rcases pk_rel v with e | ⟨e, -⟩
              · rw [← e]; exact hx
              · rw [hx] at e; omega
            simp only [Bool.not_true, Bool.false_eq_true, if_false, Option.bind_some, hpd, eq35 _ b (show (pkd v).length ≤ 1048576 by have := pkd_len v; omega), hne, Bool.not_false, if_true]
            rfl
        · have : (n != (b.length : Int)) = true := by rw [bne_iff_ne]; exact hn
          simp only [Bool.not_true, Bool.false_eq_true, if_false, this, Option.bind_some, if_true]
          rfl
    · unfold ref13_Of.f
      obtain ⟨v, n, ok, e, hg⟩ := rread_total 13 12 b (by decide) (by decide) hb hl
      have e' : ref13_read.f ((12 : Int).toNat + 1) b 12 = some (v, n, ok) := e
      rw [if_neg (by simpa using hnl'), e']
      simp only [Option.bind_some]
      cases ok with
      | false => rfl
      | true =>
        obtain ⟨g1, g2, g3, g4⟩ := hg rfl
        have ht : tot v ≤ 1048576 := by omega
        by_cases hn : n = (b.length : Int)
        · have : (n != (b.length : Int)) = false := by rw [hn]; simp
          simp only [Bool.not_true, Bool.false_eq_true, if_false, this, Option.bind_some, rMay_eq v ht]
          cases hm : mayB 12 v with
          | false => rfl
          | true =>
            have hpr : ref13_Pack.f (Der.fuel v) v = some (pk v) := rpack _ 12 v (Nat.le_refl _) ht hm g1
            have hne : (bytesL (pk v) == bytesL b) = false := by
              rw [bytesL_beq (pk_u8 _ 12 v (Nat.le_refl _) hm g1) hb, beq_eq_false_iff_ne]
              intro hx
              exact h ⟨v, g1, hm, hx, by omega, by omega⟩
            simp only [Bool.not_true, Bool.false_eq_true, if_false, Option.bind_some, hpr, hne, Bool.not_false, if_true]
            rfl
        · have : (n != (b.length : Int)) = true := by rw [bne_iff_ne]; exact hn
          simp only [Bool.not_true, Bool.false_eq_true, if_false, this, Option.bind_some, if_true]
          rfl
theorem of_cases {b : List Int} (hb : U8L b) (hl : b.length ≤ 1048576) : (∃ v, der_Of.f b = some (v, 0) ∧ ref13_Of.f b = some (v, true) ∧ IsOf b v) ∨ (der_Of.f b = some (Der.dflt, 4) ∧ ref13_Of.f b = some (Der.dflt, false)) := by
  by_cases h : ∃ v, IsOf b v
  · obtain ⟨v, h1, h2, h3, h4, h5⟩ := h
    obtain ⟨e1, e2, e3⟩ := of_yes hb h1 h2 h3 h4
    exact Or.inl ⟨v, e1, e2, e3⟩
  · exact Or.inr (of_no hb hl h)
theorem eqD_self (v : Der) : eqD v v = true := eqD_true.2 rfl
end Go.Proofs.YtjhknfpociahoaaDoor
