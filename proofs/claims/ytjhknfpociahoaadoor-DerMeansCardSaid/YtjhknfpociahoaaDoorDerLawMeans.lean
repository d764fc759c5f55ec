import Derived.Test.YtjhknfpociahoaaDoorDerL17
namespace Go.Proofs.YtjhknfpociahoaaDoor
open Go Go.HW Go.RowKit
set_option linter.unusedVariables false
set_option linter.unusedSimpArgs false

theorem bytesR_cases (v : Der) : (mayB 12 v = true ∧ (pk v).length ≤ 65000 ∧ bytesR v = (pk v, 0)) ∨ ∃ n : Int, (n = 2 ∨ n = 3) ∧ bytesR v = ([], n) := by
  unfold bytesR
  cases hm : mayB 12 v with
  | false => right; exact ⟨2, Or.inl rfl, rfl⟩
  | true =>
    by_cases h : (pk v).length ≤ 65000
    · left; exact ⟨rfl, h, by simp [h]⟩
    · right; exact ⟨3, Or.inr rfl, by simp [h]⟩
theorem prefix_same {v w : Der} (hv : DOk v) (hw : DOk w) (mv : mayB 12 v = true) (mw : mayB 12 w = true) (lv : (pk v).length ≤ 65000) (lw : (pk w).length ≤ 65000) (hle : (pk v).length ≤ (pk w).length) (h : (pk w).take (pk v).length = pk v) : v = w := by
  have uw := pk_u8 _ 12 w (Nat.le_refl _) mw hw
  have e : pk w = pk v ++ (pk w).drop (pk v).length := by
    have := List.take_append_drop (pk v).length (pk w)
    rw [h] at this; exact this.symm
  have h1 := dread_back 13 12 v ((pk w).drop (pk v).length) (by decide) (by decide) mv hv (by omega) (by rw [← e]; exact uw) (by rw [← e]; omega)
  have h2 := dread_back 13 12 w [] (by decide) (by decide) mw hw (by omega) (by rw [List.append_nil]; exact uw) (by rw [List.append_nil]; omega)
  rw [List.append_nil] at h2
  rw [← e] at h1
  have := h1.symm.trans h2
  simp only [Option.some.injEq, Prod.mk.injEq] at this
  exact this.1
/-- The last part of the law: bytes that are a value's are just its bytes. -/
def tailM (a2 : List Int) : Option Bool := (der_Of.f a2).bind fun (t106_0, t106_1) => (law13_num.f t106_1).bind fun t112 => if (t112 != 0) = true then (some true) else ((der_Bytes.f t106_0).bind fun (t118_0, t118_1) => (law13_num.f t118_1).bind fun t123 => (if (t123 == 0) = true then (some ((bytesL t118_0) == (bytesL a2))) else (some false)).bind fun q127 => (if q127 = true then ((der_May.f t106_0).bind fun t141 => some t141) else (some false)).bind fun q135 => some q135)
theorem tailM_eq {b : List Int} (hb : U8L b) (hl : b.length ≤ 1048576) : tailM b = some true := by
  unfold tailM
  rcases of_cases hb hl with ⟨v, e1, -, h1, h2, h3, h4, h5⟩ | ⟨e1, -⟩
  · have ht : tot v ≤ 1048576 := by omega
    have hbr : bytesR v = (b, 0) := by
      rcases bytesR_cases v with ⟨-, -, e⟩ | ⟨n, hn, e⟩
      · rw [e, h3]
      · unfold bytesR at e
        rw [h2, if_pos rfl, if_pos (by rw [h3]; exact h4)] at e
        simp only [Prod.mk.injEq] at e
        omega
    rw [e1]
    simp [law13_num.f, dBytes_eq v ht h1, hbr, dMay_eq v ht, h2]
  · rw [e1]
    simp [law13_num.f]
theorem DerMeans_law {v w : Der} {b : List Int} (hv : DOk v) (hw : DOk w) (hb : U8L b) : law13_DerMeans.f v w b = some true := by
  unfold law13_DerMeans.f
  obtain ⟨p, e1, h1⟩ := few_eq v
  obtain ⟨q, e2, h2⟩ := few_eq w
  rw [e1, e2, known_eq]
  simp only [Option.bind_some, Bool.not_true, Bool.false_eq_true, if_false]
  cases p with
  | false => rfl
  | true =>
    cases q with
    | false => rfl
    | true =>
      by_cases h9 : 9000 < b.length
      · have : (9000 : Int) < b.length := by omega
        simp [this]
      · have h9' : ¬ (9000 : Int) < b.length := by omega
        have t1 := h1 rfl
        have t2 := h2 rfl
        have ht := tailM_eq hb (show b.length ≤ 1048576 by omega)
        unfold tailM at ht
        simp only [Bool.not_true, Bool.false_eq_true, if_false, Option.bind_some, h9', decide_false, dBytes_eq v t1 hv, dBytes_eq w t2 hw, ht]
        rcases bytesR_cases v with ⟨mv, lv, ev⟩ | ⟨n, hn, ev⟩
        · rw [ev]
          have uv := pk_u8 _ 12 v (Nat.le_refl _) mv hv
          obtain ⟨o1, -, -⟩ := of_yes uv hv mv rfl lv
          have hs : ref13_Same.f (Der.fuel v) v v = some true := by rw [show ref13_Same.f (Der.fuel v) v v = some (eqD v v) from rsame _ v v (Nat.le_refl _) t1 hv hv, eqD_self]
          have hsw : ref13_Same.f (Der.fuel v) v w = some (eqD v w) := rsame _ v w (Nat.le_refl _) t1 hv hw
          rcases bytesR_cases w with ⟨mw, lw, ew⟩ | ⟨n, hn, ew⟩
          · rw [ew]
            have uw := pk_u8 _ 12 w (Nat.le_refl _) mw hw
            have hq : (if decide (((pk v).length : Int) ≤ ((pk w).length : Int)) = true then req (0 ≤ ((pk v).length : Int)) (req (((pk v).length : Int) ≤ ((pk w).length : Int)) (some (bytesL ((pk w).take ((pk v).length : Int).toNat) == bytesL (pk v)))) else some false) = some (eqD v w) := by
              by_cases hle : (pk v).length ≤ (pk w).length
              · rw [if_pos (decide_eq_true (by omega)), rq (by omega), rq (by omega), Int.toNat_natCast, bytesL_beq (fun x hx => uw x (List.mem_of_mem_take hx)) uv]
                congr 1
                rw [Bool.eq_iff_iff, beq_iff_eq, eqD_true]
                constructor
                · exact prefix_same hv hw mv mw lv lw hle
                · rintro rfl; exact List.take_length
              · rw [if_neg (fun h => hle (by have := of_decide_eq_true h; omega))]
                congr 1
                symm
                rw [Bool.eq_false_iff]
                intro h
                rw [eqD_true] at h
                subst h
                omega
            simp only [law13_num.f, Option.bind_some, BEq.rfl, if_true, o1, hs, hsw, bne_self_eq_false, Bool.false_eq_true, if_false, Bool.not_true, show IntKind.i64.wrap (0 + 0) = 0 from rfl, nmE, hq]
            first | done | (cases eqD v w <;> rfl)
          · rw [ew]
            simp only [law13_num.f, Option.bind_some, BEq.rfl, if_true, o1, hs, bne_self_eq_false, Bool.false_eq_true, if_false, Bool.not_true]
            rcases hn with rfl | rfl <;> rfl
        · rw [ev]
          rcases bytesR_cases w with ⟨mw, lw, ew⟩ | ⟨m, hm, ew⟩
          · rw [ew]
            simp only [law13_num.f, Option.bind_some]
            rcases hn with rfl | rfl <;> rfl
          · rw [ew]
            simp only [law13_num.f, Option.bind_some]
            rcases hn with rfl | rfl <;> rcases hm with rfl | rfl <;> rfl
end Go.Proofs.YtjhknfpociahoaaDoor
