/- Whatever card, type and attributes come in, PolicyLooks returns true and each argument reads as it did. No condition. -/
import Derived.Test.YtbnmoonelaolcaaRows
import Derived.Test.YtbnmoonelaolcaaHw8
import Derived.Test.YtbnmoonelaolcaaPqLaw
namespace Go.Proofs.Ytbnmoonelaolcaa
open Go Go.HW Go.RowKit Go.ChangeShapes Go.WideShapes Go.ChangeAt

theorem own : ownKnob Try.prog.godebug = none := by kernel_rfl
theorem laidOut : laidOutB Try.prog = true := by kernel_rfl
def fld (n : String) (t : TypeId) (o : Nat) : Field := { name := n, type := t, offset := o, embedded := false, tag := "", pkgPath := "", byteOffset := 8 * o }
theorem under26 : Try.prog.underlying 26 = some (.struct #[fld "Type" 22 0, fld "Origin" 23 1, fld "Attr" 24 2, fld "Born" 24 3]) := by kernel_rfl
theorem open_card {H : Type} {enc : TypeId × Value → H} {spare : Nat → Bool} {held : Bool} {w : World} {base b0 : Nat} {r : Reach} {v : Value} {d : DataW H} {p : List MemPlace}
    (hv : Value.okWide Try.prog w r b0 26 v) (h : DataW.Trod enc Try.prog w base spare held 26 v d p) :
    ∃ x0 x1 x2 x3 : Int, v = .agg #[.int .i64 x0, .int .i64 x1, .int .i64 x2, .int .i64 x3] ∧ (IntKind.i64.min ≤ x0 ∧ x0 ≤ IntKind.i64.max) ∧ (IntKind.i64.min ≤ x1 ∧ x1 ≤ IntKind.i64.max) ∧ (IntKind.i64.min ≤ x2 ∧ x2 ≤ IntKind.i64.max) ∧ IntKind.i64.min ≤ x3 ∧ x3 ≤ IntKind.i64.max :=
  open_ints4 .i64 under26 (by kernel_rfl) (by kernel_rfl) (by kernel_rfl) (by kernel_rfl) (by kernel_rfl) (by kernel_rfl) hv h

set_option maxRecDepth 100000 in
theorem PolicyLooks_lifted (os : Os) (started : os.Started) (H : Type) (enc : TypeId × Value → H) :
    ReturnsInHanded {} Try.checked os 6 .any (Rows.policyLooksSpec.pre6 enc Try.prog Try.f6 Rows.policyLooksRow.domain false) (Rows.policyLooksSpec.post enc Try.prog Try.f6 false true false false) := by
  refine returnsInHanded_of_change (C := Try.checked) own started (by kernel_rfl) Try.func6
    (ChangeSpec.witness6 (enc := enc) (C := Try.checked) false ⟨#[], #[.agg #[.int .i64 0, .int .i64 0, .int .i64 0, .int .i64 0], .int .i64 0, .int .i64 0], []⟩ 8 (by kernel_rfl) (by kernel_rfl) (by kernel_rfl) (by kernel_rfl)) ?_
  intro W base args ds gs before hval0 hW hcnd _
  have hval : ∀ (j : Nat) t v, Try.f6.params[j]? = some t → args[j]? = some v → Value.okWide Try.prog W .any base t v := hval0
  have hW' := hW
  obtain ⟨p, q, hA0, hV, rfl, hfz, hnd⟩ := hW
  have hA : DataW.TrodAll enc Try.prog W 0 (fun _ => true) true [26, 22, 24] args.toList ds p := hA0
  obtain ⟨v0, v1, v2, d0, d1, d2, p0, p1, p2, rfl, rfl, rfl, h0, h1, h2⟩ := trodAll_three hA
  obtain ⟨c0, c1, c2, c3, rfl, -, -, hc2, hc3⟩ := open_card (hval 0 26 v0 rfl rfl) h0
  obtain ⟨t, rfl, -, -, ht⟩ := open_int (by kernel_rfl : Try.prog.underlying 22 = some (.int .i64)) (hval 1 22 v1 rfl rfl) h1
  obtain ⟨a, rfl, -, -, ha⟩ := open_int (by kernel_rfl : Try.prog.underlying 24 = some (.int .i64)) (hval 2 24 v2 rfl rfl) h2
  refine (law21_PolicyLooks.ok (PolicyLooks_law (c0 := c0) (c1 := c1) (t := t) (a := a) hc2 hc3) W (Ext.refl _)).mono fun e W' ⟨v, he, hv, hb⟩ => ?_
  subst he; subst hv
  exact ⟨_, rfl, post_law laidOut hW' rfl (by kernel_rfl) rfl (by kernel_rfl) rfl hb⟩

theorem PolicyLooks_holds : Rows.PolicyLooksSaid :=
  OpenClaim.holds_of_wide 6 Try.f6 rfl rfl rfl rfl rfl rfl rfl ⟨rfl, rfl, rfl, rfl, rfl⟩ rfl rfl rfl rfl rfl (by kernel_rfl) Try.func6 (by kernel_rfl)
    (of_decide_eq_true (by kernel_rfl)) (by unfold Func.isWrapper; rw [if_neg (of_decide_eq_false (by kernel_rfl))]; exact ⟨rfl, rfl⟩)
    (fun os started H enc _ => PolicyLooks_lifted os started H enc)
end Go.Proofs.Ytbnmoonelaolcaa
