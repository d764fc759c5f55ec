/- ModelNil returns true. The two tables of unicode/utf8 hold what their initialisers lay: the card ties them to the text of the program. -/
import Derived.Test.YtfcedjmgddloiaaDoorMoRow
import Derived.Test.YtfcedjmgddloiaaDoorCwM5
namespace Go.Proofs.YtfcedjmgddloiaaDoor
open Go Go.HW Go.RowKit Go.ChangeShapes Go.WideShapes Go.ChangeAt
set_option maxRecDepth 100000 in
theorem ModelNil_lifted (os : Os) (started : os.Started) (H : Type) (enc : TypeId × Value → H) :
    ReturnsInHanded {} Tryd.checked os 3 .any (fun w args => (Rows.modelNilSpec.pre enc Tryd.prog Tryd.f3 [] false w args ∧ laidMetH Tryd.prog laidL w) ∧ sizedMet enc Tryd.prog Tryd.f3 (OpenSpec.ofChange Rows.modelNilSpec) false w args)
      (Rows.modelNilSpec.post enc Tryd.prog Tryd.f3 false true false false) := by
  refine returnsInHanded_of_change_and (C := Tryd.checked) (X := fun w _ => laidMetH Tryd.prog laidL w) (fun _ _ _ hh h => h.of_heap hh) own started (by kernel_rfl) Tryd.func3
    (ChangeSpec.witness_at (enc := enc) (C := Tryd.checked) (os := os) (X := fun w _ => laidMetH Tryd.prog laidL w) false (laidWorld os) #[] 8 rfl (by kernel_rfl) (by kernel_rfl) (by kernel_rfl) (by kernel_rfl) (by kernel_rfl) (laid_met os _)) ?_
  intro W base args ds gs before hval0 hW _ hsz hL _
  have hval : ∀ (j : Nat) t v, Tryd.f3.params[j]? = some t → args[j]? = some v → Value.okWide Tryd.prog W .any base t v := hval0
  have hW' := hW
  obtain ⟨p, q, hA0, hV, rfl, hfz, hnd⟩ := hW
  have hA : DataW.TrodAll enc Tryd.prog W 0 (fun _ => true) true [] args.toList ds p := hA0
  obtain ⟨rfl, rfl, rfl⟩ := trodAll_none hA

  have hC0 : Cls W (heapOf W) [] W := ⟨rfl, rfl, rfl, Nat.le_refl _, fun b o e => e, fun b o e => (by cases e), fun b o e => (by cases e), List.nodup_nil⟩
  refine (cw3_1 (heapOf W) (Ext.refl _) W W hC0).mono fun e W' ⟨x, he, hc⟩ => ?_
  subst he
  exact ⟨_, rfl, post_law laidOut hW' rfl (by kernel_rfl) rfl (by kernel_rfl) rfl hc.toBelow⟩

theorem ModelNil_holds : Rows.ModelNilSaid :=
  OpenClaim.holds_of_wide 3 Tryd.f3 rfl rfl rfl rfl rfl rfl rfl ⟨rfl, rfl, rfl, rfl, rfl⟩ rfl rfl rfl rfl rfl (by kernel_rfl) Tryd.func3 (by kernel_rfl)
    (of_decide_eq_true (by kernel_rfl)) (by unfold Func.isWrapper; rw [if_neg (of_decide_eq_false (by kernel_rfl))]; exact ⟨rfl, rfl⟩)
    (fun os started H enc _ => ModelNil_lifted os started H enc)

theorem ModelNil_card : Rows.ModelNilCardSaid :=
  Claim7.holds_tied_plain_at .later [] [.data, .pinned] true (true, "a0e771a1a277357d6f510ecf1028c2c71016041147c41f6b47e9186b118fc453") true
    ModelNil_holds (fun _ h => by cases h) (by kernel_rfl) (fun _ h => by cases h) modelNil_row_tie rfl ⟨rfl, rfl⟩ (by kernel_rfl) rfl
    (fun f fn hf hfn => by
      obtain rfl : f = 3 := Option.some.inj ((show Tryd.prog.funcNamed "escutcheon/escutcheonlaw26.ModelNil" = some 3 by kernel_rfl).symm.trans hf) |>.symm
      obtain rfl : fn = Tryd.f3 := (Option.some.inj (Tryd.func3.symm.trans hfn)).symm
      exact ⟨by kernel_rfl, fun j t ht => by
        rw [show Tryd.f3.params = #[] from by kernel_rfl] at ht
        match j, ht with

        | j + 0, ht => simp at ht⟩)
    (by kernel_rfl)
end Go.Proofs.YtfcedjmgddloiaaDoor
