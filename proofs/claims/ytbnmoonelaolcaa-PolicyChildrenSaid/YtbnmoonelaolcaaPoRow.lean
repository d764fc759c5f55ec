/- Whatever two cards, origin, type and attributes come in, PolicyChildren returns true and each argument reads as it did. No condition. -/
import Derived.Test.YtbnmoonelaolcaaRows
import Derived.Test.YtbnmoonelaolcaaHw8
import Derived.Test.YtbnmoonelaolcaaPoLaw
namespace Go.Proofs.Ytbnmoonelaolcaa
open Go Go.HW Go.RowKit Go.ChangeShapes Go.WideShapes Go.ChangeAt

theorem own : ownKnob Try.prog.godebug = none := by kernel_rfl
theorem laidOut : laidOutB Try.prog = true := by kernel_rfl
def fld (n : String) (t : TypeId) (o : Nat) : Field := { name := n, type := t, offset := o, embedded := false, tag := "", pkgPath := "", byteOffset := 8 * o }
theorem under26 : Try.prog.underlying 26 = some (.struct #[fld "Type" 22 0, fld "Origin" 23 1, fld "Attr" 24 2, fld "Born" 24 3]) := by kernel_rfl
theorem open_card {H : Type} {enc : TypeId × Value → H} {spare : Nat → Bool} {held : Bool} {w : World} {base b0 : Nat} {r : Reach} {v : Value} {d : DataW H} {p : List MemPlace}
    (hv : Value.okWide Try.prog w r b0 26 v) (h : DataW.Trod enc Try.prog w base spare held 26 v d p) :
    ∃ x0 x1 x2 x3 : Int, v = .agg #[.int .i64 x0, .int .i64 x1, .int .i64 x2, .int .i64 x3] ∧ (IntKind.i64.min ≤ x0 ∧ x0 ≤ IntKind.i64.max) ∧ (IntKind.i64.min ≤ x1 ∧ x1 ≤ IntKind.i64.max) ∧ (IntKind.i64.min ≤ x2 ∧ x2 ≤ IntKind.i64.max) ∧ IntKind.i64.min ≤ x3 ∧ x3 ≤ IntKind.i64.max :=
  open_ints4 .i64 under26 (by kernel_rfl) (by kernel_rfl) (by kernel_rfl) (by kernel_rfl) (by kernel_rfl) (by kernel_rfl) hv h

set_option maxRecDepth 100000 in
theorem PolicyChildren_lifted (os : Os) (started : os.Started) (H : Type) (enc : TypeId × Value → H) :
    ReturnsInHanded {} Try.checked os 3 .any (Rows.policyChildrenSpec.pre6 enc Try.prog Try.f3 Rows.policyChildrenRow.domain false) (Rows.policyChildrenSpec.post enc Try.prog Try.f3 false true false false) := by
  refine returnsInHanded_of_change (C := Try.checked) own started (by kernel_rfl) Try.func3
    (ChangeSpec.witness6 (enc := enc) (C := Try.checked) false ⟨#[], #[.agg #[.int .i64 0, .int .i64 0, .int .i64 0, .int .i64 0], .agg #[.int .i64 0, .int .i64 0, .int .i64 0, .int .i64 0], .int .i64 0, .int .i64 0, .int .i64 0], []⟩ 8 (by kernel_rfl) (by kernel_rfl) (by kernel_rfl) (by kernel_rfl)) ?_
  intro W base args ds gs before hval0 hW hcnd _
  have hval : ∀ (j : Nat) t v, Try.f3.params[j]? = some t → args[j]? = some v → Value.okWide Try.prog W .any base t v := hval0
  have hW' := hW
  obtain ⟨p, q, hA0, hV, rfl, hfz, hnd⟩ := hW
  have hA : DataW.TrodAll enc Try.prog W 0 (fun _ => true) true [26, 26, 23, 22, 24] args.toList ds p := hA0
  obtain ⟨v0, v1, v2, v3, v4, d0, d1, d2, d3, d4, p0, p1, p2, p3, p4, rfl, rfl, rfl, h0, h1, h2, h3, h4⟩ := trodAll_five hA
  obtain ⟨a0, a1, a2, a3, rfl, -, -, ha2, ha3⟩ := open_card (hval 0 26 v0 rfl rfl) h0
  obtain ⟨b0, b1, b2, b3, rfl, -, -, hb2, hb3⟩ := open_card (hval 1 26 v1 rfl rfl) h1
  obtain ⟨o, rfl, -, -, -⟩ := open_int ty_ue23 (hval 2 23 v2 rfl rfl) h2
  obtain ⟨t, rfl, -, -, -⟩ := open_int ty_ue22 (hval 3 22 v3 rfl rfl) h3
  obtain ⟨a, rfl, -, -, ha⟩ := open_int ty_ue24 (hval 4 24 v4 rfl rfl) h4
  refine (law21_PolicyChildren.ok (PolicyChildren_law (c0 := a0) (c1 := a1) (d0 := b0) (d1 := b1) (o := o) (t := t) ha2 ha3 hb2 hb3 (int_wf ha)) W).mono fun e W' ⟨v, he, hv, hb⟩ => ?_
  subst he; subst hv
  exact ⟨_, rfl, post_law laidOut hW' rfl (by kernel_rfl) rfl (by kernel_rfl) rfl hb⟩

theorem PolicyChildren_holds : Rows.PolicyChildrenSaid :=
  OpenClaim.holds_of_wide 3 Try.f3 rfl rfl rfl rfl rfl rfl rfl ⟨rfl, rfl, rfl, rfl, rfl⟩ rfl rfl rfl rfl rfl (by kernel_rfl) Try.func3 (by kernel_rfl)
    (of_decide_eq_true (by kernel_rfl)) (by unfold Func.isWrapper; rw [if_neg (of_decide_eq_false (by kernel_rfl))]; exact ⟨rfl, rfl⟩)
    (fun os started H enc _ => PolicyChildren_lifted os started H enc)
end Go.Proofs.Ytbnmoonelaolcaa
