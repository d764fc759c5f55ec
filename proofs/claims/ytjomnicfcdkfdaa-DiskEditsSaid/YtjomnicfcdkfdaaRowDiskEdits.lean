/- Whatever number of blocks, steps, block, place and byte comes in, DiskEdits returns true and each argument reads as it did. No condition. -/
import Derived.Test.YtjomnicfcdkfdaaDkRow
import Derived.Test.YtjomnicfcdkfdaaDkL7
import Derived.Test.YtjomnicfcdkfdaaDkOpen
namespace Go.Proofs.Ytjomnicfcdkfdaa
open Go Go.HW Go.RowKit Go.ChangeShapes Go.WideShapes Go.ChangeAt
set_option maxRecDepth 100000 in
theorem DiskEdits_lifted (os : Os) (started : os.Started) (H : Type) (enc : TypeId × Value → H) :
    ReturnsInHanded {} Try.checked os 8 .any (Rows.diskEditsSpec.pre6 enc Try.prog Try.f8 Rows.diskEditsRow.domain false) (Rows.diskEditsSpec.post enc Try.prog Try.f8 false true false false) := by
  refine returnsInHanded_of_change (C := Try.checked) own started (by kernel_rfl) Try.func8
    (ChangeSpec.witness6 (enc := enc) (C := Try.checked) false ⟨#[], #[.int .i64 0, .slice none 0 0, .int .i64 0, .int .i64 0, .int .u8 0], []⟩ 8 (by kernel_rfl) (by kernel_rfl) (by kernel_rfl) (by kernel_rfl)) ?_
  intro W base args ds gs before hval0 hW hcnd _
  have hval : ∀ (j : Nat) t v, Try.f8.params[j]? = some t → args[j]? = some v → Value.okWide Try.prog W .any base t v := hval0
  have hW' := hW
  obtain ⟨p, q, hA0, hV, rfl, hfz, hnd⟩ := hW
  have hA : DataW.TrodAll enc Try.prog W 0 (fun _ => true) true [3, 41, 3, 3, 5] args.toList ds p := hA0
  obtain ⟨v0, v1, v2, v3, v4, d0, d1, d2, d3, d4, p0, p1, p2, p3, p4, rfl, rfl, rfl, h0, h1, h2, h3, h4⟩ := trodAll_five hA
  obtain ⟨nb, rfl, -, -, hnb⟩ := open_int (by kernel_rfl : Try.prog.underlying 3 = some (.int .i64)) (hval 0 3 v0 rfl rfl) h0
  obtain ⟨l, hrl, hsl⟩ := open_steps (hval 1 41 v1 rfl rfl) h1
  obtain ⟨n, rfl, -, -, hn⟩ := open_int (by kernel_rfl : Try.prog.underlying 3 = some (.int .i64)) (hval 2 3 v2 rfl rfl) h2
  obtain ⟨a, rfl, -, -, ha⟩ := open_int (by kernel_rfl : Try.prog.underlying 3 = some (.int .i64)) (hval 3 3 v3 rfl rfl) h3
  obtain ⟨z, rfl, -, -, hz⟩ := open_int (by kernel_rfl : Try.prog.underlying 5 = some (.int .u8)) (hval 4 5 v4 rfl rfl) h4
  refine (edits_ok hrl nb n a z).mono fun e W' ⟨he, hb⟩ => ?_
  subst he
  exact ⟨_, rfl, post_law laidOut hW' rfl (by kernel_rfl) rfl (by kernel_rfl) rfl hb⟩

theorem DiskEdits_holds : Rows.DiskEditsSaid :=
  OpenClaim.holds_of_wide 8 Try.f8 rfl rfl rfl rfl rfl rfl rfl ⟨rfl, rfl, rfl, rfl, rfl⟩ rfl rfl rfl rfl rfl (by kernel_rfl) Try.func8 (by kernel_rfl)
    (of_decide_eq_true (by kernel_rfl)) (by unfold Func.isWrapper; rw [if_neg (of_decide_eq_false (by kernel_rfl))]; exact ⟨rfl, rfl⟩)
    (fun os started H enc _ => DiskEdits_lifted os started H enc)
end Go.Proofs.Ytjomnicfcdkfdaa
