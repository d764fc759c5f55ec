/- Whatever comes in, DerMakes returns true and each argument reads as it did. The two tables of unicode/utf8 hold what their initialisers lay: the card ties them to the text of the program. -/
import Derived.Test.YtjhknfpociahoaaDoorDerOpenM
import Derived.Test.YtjhknfpociahoaaDoorDerLawMakes
namespace Go.Proofs.YtjhknfpociahoaaDoor
open Go Go.HW Go.RowKit Go.ChangeShapes Go.WideShapes Go.ChangeAt
set_option maxRecDepth 100000 in
theorem DerMakes_lifted (os : Os) (started : os.Started) (H : Type) (enc : TypeId × Value → H) :
    ReturnsInHanded {} Tryd.checked os 9 .any (fun w args => (Rows.derMakesSpec.pre enc Tryd.prog Tryd.f9 [] false w args ∧ laidMetH Tryd.prog laidL w) ∧ sizedMet enc Tryd.prog Tryd.f9 (OpenSpec.ofChange Rows.derMakesSpec) false w args)
      (Rows.derMakesSpec.post enc Tryd.prog Tryd.f9 false true false false) := by
  refine returnsInHanded_of_change_and (C := Tryd.checked) (X := fun w _ => laidMetH Tryd.prog laidL w) (fun _ _ _ hh h => h.of_heap hh) own started (by kernel_rfl) Tryd.func9
    (ChangeSpec.witness_at (enc := enc) (C := Tryd.checked) (os := os) (X := fun w _ => laidMetH Tryd.prog laidL w) false (laidWorld os) #[.int .i64 0, .string ⟨#[]⟩, .slice none 0 0, .slice none 0 0, .agg #[.int .i64 0, .bool false, .int .i64 0, .slice none 0 0, .string ⟨#[]⟩, .slice none 0 0, .slice none 0 0, .int .i64 0, .bool false, .int .i64 0, .slice none 0 0, .string ⟨#[]⟩, .slice none 0 0, .slice none 0 0], .int .i64 0] 8 rfl (by kernel_rfl) (by kernel_rfl) (by kernel_rfl) (by kernel_rfl) (by kernel_rfl) (laid_met os _)) ?_
  intro W base args ds gs before hval0 hW _ hsz hL _
  have hG := glob_of hL
  have hval : ∀ (j : Nat) t v, Tryd.f9.params[j]? = some t → args[j]? = some v → Value.okWide Tryd.prog W .any base t v := hval0
  have hW' := hW
  obtain ⟨p, q, hA0, hV, rfl, hfz, hnd⟩ := hW
  have hA : DataW.TrodAll enc Tryd.prog W 0 (fun _ => true) true [2, 9, 23, 24, 56, 3] args.toList ds p := hA0
  obtain ⟨v0, v1, v2, v3, v4, v5, d0, d1, d2, d3, d4, d5, p0, p1, p2, p3, p4, p5, rfl, rfl, rfl, h0, h1, h2, h3, h4, h5⟩ := trodAll_six hA
  obtain ⟨n, rfl, -, -, hn⟩ := open_int (by kernel_rfl : Tryd.prog.underlying 2 = some (.int .i64)) (hval 0 2 v0 rfl rfl) h0
  obtain ⟨s, rfl⟩ := open_text (by kernel_rfl : Tryd.prog.underlying 9 = some .string) (hval 1 9 v1 rfl rfl)
  obtain ⟨b, hrb, hub⟩ := open_bytesL (hval 2 23 v2 rfl rfl) h2
  obtain ⟨a, hra, hua⟩ := open_arcs (hval 3 24 v3 rfl rfl) h3
  obtain ⟨x, y, xb, xa, xk, yb, ya, yk, rfl, ⟨x1, x2, x3, x4⟩, y1, y2, y3, y4⟩ := open_two (hval 4 56 v4 rfl rfl) h4
  obtain ⟨t, rfl, -, -, ht⟩ := open_int (by kernel_rfl : Tryd.prog.underlying 3 = some (.int .i64)) (hval 5 3 v5 rfl rfl) h5
  refine (law13_DerMakes.ok (DerMakes_law (i64_of hn) (i64_of ht) hub hua x4 y4) W (Ext.refl _) hG hrb hra x1 x2 x3 y1 y2 y3).mono fun e W' ⟨v, he, hv, hb⟩ => ?_
  subst he; subst hv
  exact ⟨_, rfl, post_law laidOut hW' rfl (by kernel_rfl) rfl (by kernel_rfl) rfl hb⟩

theorem DerMakes_holds : Rows.DerMakesSaid :=
  OpenClaim.holds_of_wide 9 Tryd.f9 rfl rfl rfl rfl rfl rfl rfl ⟨rfl, rfl, rfl, rfl, rfl⟩ rfl rfl rfl rfl rfl (by kernel_rfl) Tryd.func9 (by kernel_rfl)
    (of_decide_eq_true (by kernel_rfl)) (by unfold Func.isWrapper; rw [if_neg (of_decide_eq_false (by kernel_rfl))]; exact ⟨rfl, rfl⟩)
    (fun os started H enc _ => DerMakes_lifted os started H enc)

theorem DerMakes_card : Rows.DerMakesCardSaid :=
  Claim7.holds_tied_plain_at .later [] [.data, .pinned] true (true, "f244a042b6d290398c613c32902d0749077c6941af889079e6f5ee56edb6cf41") false
    DerMakes_holds (fun _ h => by cases h) (by kernel_rfl) (fun _ h => by cases h) derMakes_row_tie rfl ⟨rfl, rfl⟩ (by kernel_rfl) rfl
    (fun f fn hf hfn => by
      obtain rfl : f = 9 := Option.some.inj ((show Tryd.prog.funcNamed "escutcheon/escutcheonlaw13.DerMakes" = some 9 by kernel_rfl).symm.trans hf) |>.symm
      obtain rfl : fn = Tryd.f9 := (Option.some.inj (Tryd.func9.symm.trans hfn)).symm
      exact ⟨by kernel_rfl, fun j t ht => by
        rw [show Tryd.f9.params = #[2, 9, 23, 24, 56, 3] from by kernel_rfl] at ht
        match j, ht with
        | 0, ht => simp at ht; subst ht; exact (show Tryd.prog.wantsStandIn 2 = false by kernel_rfl)
        | 1, ht => simp at ht; subst ht; exact (show Tryd.prog.wantsStandIn 9 = false by kernel_rfl)
        | 2, ht => simp at ht; subst ht; exact (show Tryd.prog.wantsStandIn 23 = false by kernel_rfl)
        | 3, ht => simp at ht; subst ht; exact (show Tryd.prog.wantsStandIn 24 = false by kernel_rfl)
        | 4, ht => simp at ht; subst ht; exact (show Tryd.prog.wantsStandIn 56 = false by kernel_rfl)
        | 5, ht => simp at ht; subst ht; exact (show Tryd.prog.wantsStandIn 3 = false by kernel_rfl)
        | j + 6, ht => simp at ht⟩)
    (by kernel_rfl)
end Go.Proofs.YtjhknfpociahoaaDoor
