import Derived.Test.YtjhknfpociahoaaDoorDerL15
namespace Go.Proofs.YtjhknfpociahoaaDoor
open Go Go.HW Go.RowKit
set_option linter.unusedVariables false
set_option linter.unusedSimpArgs false

/-- Is it the value of these bytes? -/
def IsOf (b : List Int) (v : Der) : Prop := DOk v ∧ mayB 12 v = true ∧ pk v = b ∧ b.length ≤ 65000 ∧ tot v ≤ b.length
theorem isOf_reads {b : List Int} (hb : U8L b) {v : Der} (hv : DOk v) (hm : mayB 12 v = true) (hp : pk v = b) (hl : b.length ≤ 65000) : der_value.f 13 b 12 = some (v, (b.length : Int), true) ∧ ref13_read.f 13 b 12 = some (v, (b.length : Int), true) ∧ IsOf b v := by
  have h1 := dread_back 13 12 v [] (by decide) (by decide) hm hv (by rw [hp]; omega) (by rw [List.append_nil, hp]; exact hb) (by rw [List.append_nil, hp]; omega)
  have h2 := rread_back 13 12 v [] (by decide) (by decide) hm hv (by rw [hp]; omega) (by rw [List.append_nil, hp]; exact hb) (by rw [List.append_nil, hp]; omega)
  rw [List.append_nil, hp] at h1 h2
  obtain ⟨v', n', ok', e, hg⟩ := dread_total 13 12 b (by decide) (by decide) hb (by omega)
  have e2 := h1.symm.trans e
  simp only [Option.some.injEq, Prod.mk.injEq] at e2
  obtain ⟨rfl, rfl, rfl⟩ := e2
  obtain ⟨-, -, -, g4⟩ := hg rfl
  exact ⟨h1, h2, hv, hm, hp, hl, by omega⟩
theorem of_yes {b : List Int} (hb : U8L b) {v : Der} (hv : DOk v) (hm : mayB 12 v = true) (hp : pk v = b) (hl : b.length ≤ 65000) : der_Of.f b = some (v, 0) ∧ ref13_Of.f b = some (v, true) ∧ IsOf b v := by
  obtain ⟨h1, h2, h3⟩ := isOf_reads hb hv hm hp hl
  have ht : tot v ≤ 1048576 := by have := h3.2.2.2.2; omega
  have hnl : ¬ (65000 : Int) < b.length := by omega
  have hpd : der_pack.f (Der.fuel v) v = some b := by
    rw [show der_pack.f (Der.fuel v) v = some (pkd v) from dpack _ 12 v (Nat.le_refl _) ht hm hv, pk_short (by rw [hp]; exact hl), hp]
  have hpr : ref13_Pack.f (Der.fuel v) v = some b := by
    rw [show ref13_Pack.f (Der.fuel v) v = some (pk v) from rpack _ 12 v (Nat.le_refl _) ht hm hv, hp]
  refine ⟨?_, ?_, h3⟩
  · unfold der_Of.f
    rw [if_neg (by simpa using hnl), show ((12 : Int).toNat + 1) = 13 from rfl, h1]
    simp [dMay_eq v ht, hm, hpd, eq35 b b (by omega)]
  · unfold ref13_Of.f
    rw [if_neg (by simpa using hnl), show ((12 : Int).toNat + 1) = 13 from rfl, h2]
    have := rMay_eq v ht
    rw [show ((12 : Int).toNat + 1) = 13 from rfl] at this
    simp [this, hm, hpr]
end Go.Proofs.YtjhknfpociahoaaDoor
