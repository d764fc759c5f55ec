/- Whatever number of blocks, steps and picks comes in, DiskMeans returns true and each argument reads as it did. No condition. -/
import Derived.Test.YtjomnicfcdkfdaaDkRow
import Derived.Test.YtjomnicfcdkfdaaDkMq
import Derived.Test.YtjomnicfcdkfdaaDkOpen
namespace Go.Proofs.Ytjomnicfcdkfdaa
open Go Go.HW Go.RowKit Go.ChangeShapes Go.WideShapes Go.ChangeAt
set_option maxRecDepth 100000 in
theorem DiskMeans_lifted (os : Os) (started : os.Started) (H : Type) (enc : TypeId × Value → H) :
    ReturnsInHanded {} Try.checked os 5 .any (Rows.diskMeansSpec.pre6 enc Try.prog Try.f5 Rows.diskMeansRow.domain false) (Rows.diskMeansSpec.post enc Try.prog Try.f5 false true false false) := by
  refine returnsInHanded_of_change (C := Try.checked) own started (by kernel_rfl) Try.func5
    (ChangeSpec.witness6 (enc := enc) (C := Try.checked) false ⟨#[], #[.int .i64 0, .slice none 0 0, .slice none 0 0], []⟩ 8 (by kernel_rfl) (by kernel_rfl) (by kernel_rfl) (by kernel_rfl)) ?_
  intro W base args ds gs before hval0 hW hcnd _
  have hval : ∀ (j : Nat) t v, Try.f5.params[j]? = some t → args[j]? = some v → Value.okWide Try.prog W .any base t v := hval0
  have hW' := hW
  obtain ⟨p, q, hA0, hV, rfl, hfz, hnd⟩ := hW
  have hA : DataW.TrodAll enc Try.prog W 0 (fun _ => true) true [3, 41, 22] args.toList ds p := hA0
  obtain ⟨v0, v1, v2, d0, d1, d2, p0, p1, p2, rfl, rfl, rfl, h0, h1, h2⟩ := trodAll_three hA
  obtain ⟨n, rfl, -, -, hn⟩ := open_int (by kernel_rfl : Try.prog.underlying 3 = some (.int .i64)) (hval 0 3 v0 rfl rfl) h0
  obtain ⟨l, hrl, hsl⟩ := open_steps (hval 1 41 v1 rfl rfl) h1
  obtain ⟨ps, hrps, hups⟩ := open_nums (by kernel_rfl) (by kernel_rfl : Try.prog.underlying 3 = some (.int .i64)) (by kernel_rfl) (hval 2 22 v2 rfl rfl) h2
  refine (means_ok hrl (fun z hz => (hsl z hz).2.2.1) hrps n).mono fun e W' ⟨he, hb⟩ => ?_
  subst he
  exact ⟨_, rfl, post_law laidOut hW' rfl (by kernel_rfl) rfl (by kernel_rfl) rfl hb⟩

theorem DiskMeans_holds : Rows.DiskMeansSaid :=
  OpenClaim.holds_of_wide 5 Try.f5 rfl rfl rfl rfl rfl rfl rfl ⟨rfl, rfl, rfl, rfl, rfl⟩ rfl rfl rfl rfl rfl (by kernel_rfl) Try.func5 (by kernel_rfl)
    (of_decide_eq_true (by kernel_rfl)) (by unfold Func.isWrapper; rw [if_neg (of_decide_eq_false (by kernel_rfl))]; exact ⟨rfl, rfl⟩)
    (fun os started H enc _ => DiskMeans_lifted os started H enc)
end Go.Proofs.Ytjomnicfcdkfdaa
