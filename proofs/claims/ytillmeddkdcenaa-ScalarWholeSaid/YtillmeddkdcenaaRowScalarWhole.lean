/- Whatever key and whatever byte come in, ScalarWhole returns true and each argument reads as it did. No condition. -/
import Derived.Test.YtillmeddkdcenaaRows
import Derived.Test.YtillmeddkdcenaaHw8
import Derived.Test.YtillmeddkdcenaaScLaws
namespace Go.Proofs.Ytillmeddkdcenaa
open Go Go.HW Go.RowKit Go.ChangeShapes Go.WideShapes Go.ChangeAt

theorem own : ownKnob Try.prog.godebug = none := by kernel_rfl
theorem laidOut : laidOutB Try.prog = true := by kernel_rfl
theorem open_key {H : Type} {enc : TypeId × Value → H} {spare : Nat → Bool} {held : Bool} {w : World} {base b0 : Nat} {r : Reach} {v : Value} {d : DataW H} {p : List MemPlace}
    (hv : Value.okWide Try.prog w r b0 23 v) (h : DataW.Trod enc Try.prog w base spare held 23 v d p) : ∃ xs : List Int, v = .agg (HW.enc .u8 xs) ∧ xs.length = 32 ∧ Key xs := by
  obtain ⟨xs, rfl, hl, hr⟩ := open_intArr (n := 32) (e := 5) (k := .u8) (by kernel_rfl) (by kernel_rfl) (by kernel_rfl) (by kernel_rfl) hv h
  refine ⟨xs, rfl, hl, hl, fun x hx => ?_⟩
  have h0 : (0 : Int) ≤ x := (hr x hx).1
  have h1 : x ≤ 255 := (hr x hx).2
  exact ⟨h0, by omega⟩
set_option maxRecDepth 100000 in
theorem ScalarWhole_lifted (os : Os) (started : os.Started) (H : Type) (enc : TypeId × Value → H) :
    ReturnsInHanded {} Try.checked os 5 .any (Rows.scalarWholeSpec.pre6 enc Try.prog Try.f5 Rows.scalarWholeRow.domain false) (Rows.scalarWholeSpec.post enc Try.prog Try.f5 false true false false) := by
  refine returnsInHanded_of_change (C := Try.checked) own started (by kernel_rfl) Try.func5
    (ChangeSpec.witness6 (enc := enc) (C := Try.checked) false ⟨#[], #[.agg #[.int .u8 0, .int .u8 0, .int .u8 0, .int .u8 0, .int .u8 0, .int .u8 0, .int .u8 0, .int .u8 0, .int .u8 0, .int .u8 0, .int .u8 0, .int .u8 0, .int .u8 0, .int .u8 0, .int .u8 0, .int .u8 0, .int .u8 0, .int .u8 0, .int .u8 0, .int .u8 0, .int .u8 0, .int .u8 0, .int .u8 0, .int .u8 0, .int .u8 0, .int .u8 0, .int .u8 0, .int .u8 0, .int .u8 0, .int .u8 0, .int .u8 0, .int .u8 0], .int .u8 0], []⟩ 8 (by kernel_rfl) (by kernel_rfl) (by kernel_rfl) (by kernel_rfl)) ?_
  intro W base args ds gs before hval0 hW hcnd _
  have hval : ∀ (j : Nat) t v, Try.f5.params[j]? = some t → args[j]? = some v → Value.okWide Try.prog W .any base t v := hval0
  have hW' := hW
  obtain ⟨p, q, hA0, hV, rfl, hfz, hnd⟩ := hW
  have hA : DataW.TrodAll enc Try.prog W 0 (fun _ => true) true [23, 5] args.toList ds p := hA0
  obtain ⟨v0, v1, d0, d1, p0, p1, rfl, rfl, rfl, h0, h1⟩ := trodAll_two hA
  obtain ⟨x0, rfl, l0, k0⟩ := open_key (hval 0 23 v0 rfl rfl) h0
  obtain ⟨t, rfl, -, -, ht⟩ := open_int (show Try.prog.underlying 5 = some (.int .u8) from by kernel_rfl) (hval 1 5 v1 rfl rfl) h1
  have ht0 : (0 : Int) ≤ t := (int_wf ht).1
  have ht1 : t ≤ 255 := (int_wf ht).2
  refine (law03_ScalarWhole.ok l0 (ScalarWhole_law k0 (show U8 t from ⟨ht0, by omega⟩)) W).mono fun e W' ⟨v, he, hv, hb⟩ => ?_
  subst he; subst hv
  exact ⟨_, rfl, post_law laidOut hW' rfl (by kernel_rfl) rfl (by kernel_rfl) rfl hb⟩

theorem ScalarWhole_holds : Rows.ScalarWholeSaid :=
  OpenClaim.holds_of_wide 5 Try.f5 rfl rfl rfl rfl rfl rfl rfl ⟨rfl, rfl, rfl, rfl, rfl⟩ rfl rfl rfl rfl rfl (by kernel_rfl) Try.func5 (by kernel_rfl)
    (of_decide_eq_true (by kernel_rfl)) (by unfold Func.isWrapper; rw [if_neg (of_decide_eq_false (by kernel_rfl))]; exact ⟨rfl, rfl⟩)
    (fun os started H enc _ => ScalarWhole_lifted os started H enc)
end Go.Proofs.Ytillmeddkdcenaa
