/- Whatever bytes and cuts come in, ShaSums returns true and each argument reads as it did. No condition. -/
import Derived.Test.YtlpodhejgcmbpaaShRow
import Derived.Test.YtlpodhejgcmbpaaShLaw2
namespace Go.Proofs.Ytlpodhejgcmbpaa
open Go Go.HW Go.RowKit Go.ChangeShapes Go.WideShapes Go.ChangeAt
set_option maxRecDepth 100000 in
theorem ShaSums_lifted (os : Os) (started : os.Started) (H : Type) (enc : TypeId × Value → H) :
    ReturnsInHanded {} Try.checked os 3 .any (Rows.shaSumsSpec.pre6 enc Try.prog Try.f3 Rows.shaSumsRow.domain false) (Rows.shaSumsSpec.post enc Try.prog Try.f3 false true false false) := by
  refine returnsInHanded_of_change (C := Try.checked) own started (by kernel_rfl) Try.func3
    (ChangeSpec.witness6 (enc := enc) (C := Try.checked) false ⟨#[], #[.slice none 0 0, .slice none 0 0], []⟩ 8 (by kernel_rfl) (by kernel_rfl) (by kernel_rfl) (by kernel_rfl)) ?_
  intro W base args ds gs before hval0 hW hcnd _
  have hval : ∀ (j : Nat) t v, Try.f3.params[j]? = some t → args[j]? = some v → Value.okWide Try.prog W .any base t v := hval0
  have hW' := hW
  obtain ⟨p, q, hA0, hV, rfl, hfz, hnd⟩ := hW
  have hA : DataW.TrodAll enc Try.prog W 0 (fun _ => true) true [22, 23] args.toList ds p := hA0
  obtain ⟨v0, v1, d0, d1, p0, p1, rfl, rfl, rfl, h0, h1⟩ := trodAll_two hA
  obtain ⟨m, hr, hu⟩ := open_nums (by kernel_rfl) (by kernel_rfl : Try.prog.underlying 5 = some (.int .u8)) (by kernel_rfl) (hval 0 22 v0 rfl rfl) h0
  obtain ⟨c, hq, hc⟩ := open_nums (by kernel_rfl) (by kernel_rfl : Try.prog.underlying 3 = some (.int .i64)) (by kernel_rfl) (hval 1 23 v1 rfl rfl) h1
  refine (law05_ShaSums.ok (ShaSums_law (fun x hx => int_wf (hu x hx)) (fun x hx => int_wf (hc x hx))) W (Ext.refl _) hr hq).mono fun e W' ⟨v, he, hv, hb⟩ => ?_
  subst he; subst hv
  exact ⟨_, rfl, post_law laidOut hW' rfl (by kernel_rfl) rfl (by kernel_rfl) rfl hb⟩

theorem ShaSums_holds : Rows.ShaSumsSaid :=
  OpenClaim.holds_of_wide 3 Try.f3 rfl rfl rfl rfl rfl rfl rfl ⟨rfl, rfl, rfl, rfl, rfl⟩ rfl rfl rfl rfl rfl (by kernel_rfl) Try.func3 (by kernel_rfl)
    (of_decide_eq_true (by kernel_rfl)) (by unfold Func.isWrapper; rw [if_neg (of_decide_eq_false (by kernel_rfl))]; exact ⟨rfl, rfl⟩)
    (fun os started H enc _ => ShaSums_lifted os started H enc)
end Go.Proofs.Ytlpodhejgcmbpaa
