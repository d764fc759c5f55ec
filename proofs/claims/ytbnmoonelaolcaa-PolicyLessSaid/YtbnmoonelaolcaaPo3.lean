import Derived.Test.YtbnmoonelaolcaaPo2
namespace Go.Proofs.Ytbnmoonelaolcaa
open Go Go.HW Go.RowKit
set_option linter.unusedVariables false
set_option linter.unusedSimpArgs false

/-! ### escutcheon/escutcheonlaw21.PolicyLess: function 5 -/
noncomputable def B5 : Code := bodyOf Try.f5
def law21_PolicyLess.f (a0_0 : Int) (a0_1 : Int) (a0_2 : Int) (a0_3 : Int) (a1_0 : Int) (a1_1 : Int) (a1_2 : Int) (a1_3 : Int) (a2 : Int) (a3 : Int) (a4 : Int) : Option (Bool) := (policy_Lower.f a0_0 a0_1 a0_2 a0_3 a2).bind fun (t3_0_0, t3_0_1, t3_0_2, t3_0_3, t3_1) => (policy_Lower.f t3_0_0 t3_0_1 t3_0_2 t3_0_3 a3).bind fun (t7_0_0, t7_0_1, t7_0_2, t7_0_3, t7_1) => (law21_num.f t3_1).bind fun t11 => (law21_num.f t7_1).bind fun t14 => if ((IntKind.i64.wrap (t11 + t14)) != 0) = true then ((law21_known.f).bind fun t19 => some t19) else ((policy_Lower.f a0_0 a0_1 a0_2 a0_3 (ior .i64 a2 a3)).bind fun (t23_0_0, t23_0_1, t23_0_2, t23_0_3, t23_1) => (policy_Lower.f t7_0_0 t7_0_1 t7_0_2 t7_0_3 a2).bind fun (t27_0_0, t27_0_1, t27_0_2, t27_0_3, t27_1) => (law21_num.f t23_1).bind fun t32 => (law21_num.f t27_1).bind fun t35 => (if ((IntKind.i64.wrap (t32 + t35)) != 0) = true then (some true) else (nm (!(t23_0_0 == t7_0_0 && (t23_0_1 == t7_0_1 && (t23_0_2 == t7_0_2 && (t23_0_3 == t7_0_3 && true))))) fun t45 => some t45)).bind fun q38 => (if q38 = true then (some true) else (nm (!(t27_0_0 == t7_0_0 && (t27_0_1 == t7_0_1 && (t27_0_2 == t7_0_2 && (t27_0_3 == t7_0_3 && true))))) fun t55 => some t55)).bind fun q48 => (if q48 = true then (some true) else (some (t7_0_3 != a0_3))).bind fun q58 => (if q58 = true then (some true) else (some (t7_0_0 != a0_0))).bind fun q65 => (if q65 = true then (some true) else (some (t7_0_1 != a0_1))).bind fun q72 => (if q72 = true then (some true) else ((policy_Kept.f t7_0_0 t7_0_1 t7_0_2 t7_0_3).bind fun t86 => (policy_Kept.f a0_0 a0_1 a0_2 a0_3).bind fun t89 => some (!(t86 == t89)))).bind fun q79 => if q79 = true then (some false) else ((policy_Asked.f t7_0_0 t7_0_1 t7_0_2 t7_0_3 a4).bind fun t95 => (law21_num.f t95).bind fun t98 => (if (t98 != 0) = true then (some true) else ((policy_Asked.f a0_0 a0_1 a0_2 a0_3 a4).bind fun t108 => (law21_num.f t108).bind fun t111 => some (t111 == 0))).bind fun q101 => (if q101 = true then ((policy_Wraps.f t7_0_0 t7_0_1 t7_0_2 t7_0_3 a1_0 a1_1 a1_2 a1_3).bind fun t120 => (law21_num.f t120).bind fun t123 => (if (t123 != 0) = true then (some true) else ((policy_Wraps.f a0_0 a0_1 a0_2 a0_3 a1_0 a1_1 a1_2 a1_3).bind fun t133 => (law21_num.f t133).bind fun t136 => some (t136 == 0))).bind fun q126 => some q126) else (some false)).bind fun q114 => (if q114 = true then ((law21_known.f).bind fun t146 => some t146) else (some false)).bind fun q140 => some q140))
set_option maxRecDepth 20000 in
theorem law21_PolicyLess.ok {a0_0 : Int} {a0_1 : Int} {a0_2 : Int} {a0_3 : Int} {a1_0 : Int} {a1_1 : Int} {a1_2 : Int} {a1_3 : Int} {a2 : Int} {a3 : Int} {a4 : Int} {r : Bool} (h : law21_PolicyLess.f a0_0 a0_1 a0_2 a0_3 a1_0 a1_1 a1_2 a1_3 a2 a3 a4 = some r) (w : World) : Calls Try.prog 5 #[.agg #[.int .i64 a0_0, .int .i64 a0_1, .int .i64 a0_2, .int .i64 a0_3], .agg #[.int .i64 a1_0, .int .i64 a1_1, .int .i64 a1_2, .int .i64 a1_3], .int .i64 a2, .int .i64 a3, .int .i64 a4] w (Post (fun u => u = .bool r) w) := by
  unfold law21_PolicyLess.f at h
  refine calls_of_TT (N := 125) (S := [(0, .agg #[.int .i64 a0_0, .int .i64 a0_1, .int .i64 a0_2, .int .i64 a0_3]), (1, .agg #[.int .i64 a1_0, .int .i64 a1_1, .int .i64 a1_2, .int .i64 a1_3]), (2, .int .i64 a2), (3, .int .i64 a3), (4, .int .i64 a4)]) (c := B5) Try.func5 rfl rfl rfl (by simp) ?_
  show TT _ _ _ _ _ _ [.code (sub [] B5)] _ _
  refine TT.seq (x := sub [0] B5) (y := sub [1] B5) ?_
  refine TT.region (id := 0) (n := 3) (ops := (opsOf (sub [0] B5))) [(.alloc, none), (.alloc, none), (.pure, none)] rfl ?_
  show DL _ _ _ _ _ _ _ _ _ _ [0, 1, 2] _ _
  refine DL.new (ob := .cells (#[.int .i64 a0_0, .int .i64 a0_1, .int .i64 a0_2, .int .i64 a0_3]) 26) (mk := fun b => ptr b 0) (i := 0) rfl (Wn.none rfl) rfl rfl rfl (f_box (v := .agg #[.int .i64 a0_0, .int .i64 a0_1, .int .i64 a0_2, .int .i64 a0_3]) rfl rfl) ?_
  intro b1 hb1
  refine DL.new (ob := .cells (#[.int .i64 a1_0, .int .i64 a1_1, .int .i64 a1_2, .int .i64 a1_3]) 26) (mk := fun b => ptr b 0) (i := 1) rfl (Wn.none rfl) rfl rfl rfl (f_box (v := .agg #[.int .i64 a1_0, .int .i64 a1_1, .int .i64 a1_2, .int .i64 a1_3]) rfl rfl) ?_
  intro b2 hb2
  refine DL.pu 10 (.bool false) rfl (p_assign rfl rfl) ?_
  refine DL.nil ?_
  refine TT.seq (x := sub [1, 0] B5) (y := sub [1, 1] B5) ?_
  refine TT.region (id := 1) (n := 9) (ops := (opsOf (sub [1, 0] B5))) [(.quiet, none), (.pure, none), (.quiet, none), (.pure, none), (.pure, none), (.pure, none), (.alloc, none), (.store, none), (.pure, none)] rfl ?_
  show DL _ _ _ _ _ _ _ _ _ _ [0, 1, 2, 3, 4, 5, 6, 7, 8] _ _
  refine DL.qu 20 (.agg #[.int .i64 a0_0, .int .i64 a0_1, .int .i64 a0_2, .int .i64 a0_3]) rfl (f_loadA (j := 1) ty_a26 ty_s26 rfl rfl rfl rfl) ?_
  refine DL.pu 21 (.int .i64 a2) rfl (p_move rfl rfl) ?_
  obtain ⟨⟨t3_0_0, t3_0_1, t3_0_2, t3_0_3, t3_1⟩, h4, h5⟩ := bind_some h
  refine DL.qu 22 (.tuple #[.agg #[.int .i64 t3_0_0, .int .i64 t3_0_1, .int .i64 t3_0_2, .int .i64 t3_0_3], .int .i64 t3_1]) rfl (f_call rfl rfl (args_val (vs := [.agg #[.int .i64 a0_0, .int .i64 a0_1, .int .i64 a0_2, .int .i64 a0_3], .int .i64 a2]) rfl) (fun w => enter10 _ w) (fun w => policy_Lower.val h4 w)) ?_
  refine DL.pu 19 (.tuple #[.agg #[.int .i64 t3_0_0, .int .i64 t3_0_1, .int .i64 t3_0_2, .int .i64 t3_0_3], .int .i64 t3_1]) rfl (p_move rfl rfl) ?_
  refine DL.pu 23 (.agg #[.int .i64 t3_0_0, .int .i64 t3_0_1, .int .i64 t3_0_2, .int .i64 t3_0_3]) rfl (p_extract rfl rfl rfl) ?_
  refine DL.pu 24 (.int .i64 t3_1) rfl (p_extract rfl rfl rfl) ?_
  refine DL.new (ob := .cells (#[.int .i64 0, .int .i64 0, .int .i64 0, .int .i64 0]) 26) (mk := fun b => ptr b 0) (i := 6) rfl (Wn.none rfl) rfl rfl rfl (f_alloc ty_z26 rfl) ?_
  intro b6 hb6
  refine DL.put (H' := [(some b6, .cells (#[.int .i64 t3_0_0, .int .i64 t3_0_1, .int .i64 t3_0_2, .int .i64 t3_0_3]) 26 (0, 0)), (some b2, .cells (#[.int .i64 a1_0, .int .i64 a1_1, .int .i64 a1_2, .int .i64 a1_3]) 26 (0, 0)), (some b1, .cells (#[.int .i64 a0_0, .int .i64 a0_1, .int .i64 a0_2, .int .i64 a0_3]) 26 (0, 0))]) (i := 7) rfl (Wn.none rfl) rfl rfl (f_storeA (j := 0) ty_s26 rfl rfl rfl (by simp [OneCell]) rfl rfl rfl) (keep_none rfl) ?_
  refine DL.pu 12 (.int .i64 t3_1) rfl (p_assign rfl rfl) ?_
  refine DL.nil ?_
  refine TT.seq (x := sub [1, 1, 0] B5) (y := sub [1, 1, 1] B5) ?_
  refine TT.region (id := 2) (n := 9) (ops := (opsOf (sub [1, 1, 0] B5))) [(.quiet, none), (.pure, none), (.quiet, none), (.pure, none), (.pure, none), (.pure, none), (.alloc, none), (.store, none), (.pure, none)] rfl ?_
  show DL _ _ _ _ _ _ _ _ _ _ [0, 1, 2, 3, 4, 5, 6, 7, 8] _ _
  refine DL.qu 26 (.agg #[.int .i64 t3_0_0, .int .i64 t3_0_1, .int .i64 t3_0_2, .int .i64 t3_0_3]) rfl (f_loadA (j := 0) ty_a26 ty_s26 rfl rfl rfl rfl) ?_
  refine DL.pu 27 (.int .i64 a3) rfl (p_move rfl rfl) ?_
  obtain ⟨⟨t7_0_0, t7_0_1, t7_0_2, t7_0_3, t7_1⟩, h8, h9⟩ := bind_some h5
  refine DL.qu 28 (.tuple #[.agg #[.int .i64 t7_0_0, .int .i64 t7_0_1, .int .i64 t7_0_2, .int .i64 t7_0_3], .int .i64 t7_1]) rfl (f_call rfl rfl (args_val (vs := [.agg #[.int .i64 t3_0_0, .int .i64 t3_0_1, .int .i64 t3_0_2, .int .i64 t3_0_3], .int .i64 a3]) rfl) (fun w => enter10 _ w) (fun w => policy_Lower.val h8 w)) ?_
  refine DL.pu 25 (.tuple #[.agg #[.int .i64 t7_0_0, .int .i64 t7_0_1, .int .i64 t7_0_2, .int .i64 t7_0_3], .int .i64 t7_1]) rfl (p_move rfl rfl) ?_
  refine DL.pu 29 (.agg #[.int .i64 t7_0_0, .int .i64 t7_0_1, .int .i64 t7_0_2, .int .i64 t7_0_3]) rfl (p_extract rfl rfl rfl) ?_
  refine DL.pu 30 (.int .i64 t7_1) rfl (p_extract rfl rfl rfl) ?_
  refine DL.new (ob := .cells (#[.int .i64 0, .int .i64 0, .int .i64 0, .int .i64 0]) 26) (mk := fun b => ptr b 0) (i := 6) rfl (Wn.none rfl) rfl rfl rfl (f_alloc ty_z26 rfl) ?_
  intro b10 hb10
  refine DL.put (H' := [(some b10, .cells (#[.int .i64 t7_0_0, .int .i64 t7_0_1, .int .i64 t7_0_2, .int .i64 t7_0_3]) 26 (0, 0)), (some b6, .cells (#[.int .i64 t3_0_0, .int .i64 t3_0_1, .int .i64 t3_0_2, .int .i64 t3_0_3]) 26 (0, 0)), (some b2, .cells (#[.int .i64 a1_0, .int .i64 a1_1, .int .i64 a1_2, .int .i64 a1_3]) 26 (0, 0)), (some b1, .cells (#[.int .i64 a0_0, .int .i64 a0_1, .int .i64 a0_2, .int .i64 a0_3]) 26 (0, 0))]) (i := 7) rfl (Wn.none rfl) rfl rfl (f_storeA (j := 0) ty_s26 rfl rfl rfl (by simp [OneCell]) rfl rfl rfl) (keep_none rfl) ?_
  refine DL.pu 14 (.int .i64 t7_1) rfl (p_assign rfl rfl) ?_
  refine DL.nil ?_
  refine TT.seq (x := sub [1, 1, 1, 0] B5) (y := sub [1, 1, 1, 1] B5) ?_
  refine TT.seq (x := sub [1, 1, 1, 0, 0] B5) (y := sub [1, 1, 1, 0, 1] B5) ?_
  refine TT.region (id := 3) (n := 6) (ops := (opsOf (sub [1, 1, 1, 0, 0] B5))) [(.pure, none), (.quiet, none), (.pure, none), (.quiet, none), (.pure, none), (.pure, none)] rfl ?_
  show DL _ _ _ _ _ _ _ _ _ _ [0, 1, 2, 3, 4, 5] _ _
  refine DL.pu 31 (.int .i64 t3_1) rfl (p_move rfl rfl) ?_
  obtain ⟨t11, h12, h13⟩ := bind_some h9
  refine DL.qu 32 (.int .i64 t11) rfl (f_call rfl rfl (args_val (vs := [.int .i64 t3_1]) rfl) (fun w => enter15 _ w) (fun w => law21_num.val h12 w)) ?_
  refine DL.pu 33 (.int .i64 t7_1) rfl (p_move rfl rfl) ?_
  obtain ⟨t14, h15, h16⟩ := bind_some h13
  refine DL.qu 34 (.int .i64 t14) rfl (f_call rfl rfl (args_val (vs := [.int .i64 t7_1]) rfl) (fun w => enter15 _ w) (fun w => law21_num.val h15 w)) ?_
  refine DL.pu 35 (.int .i64 (IntKind.i64.wrap (t11 + t14))) rfl (p_add rfl rfl rfl) ?_
  refine DL.pu 36 (.bool ((IntKind.i64.wrap (t11 + t14)) != 0)) rfl (p_neq rfl rfl rfl) ?_
  refine DL.nil ?_
  by_cases c17 : ((IntKind.i64.wrap (t11 + t14)) != 0) = true
  · have h18 := ite_true c17 h16
    refine TT.cond_true (x := sub [1, 1, 1, 0, 1, 0] B5) (y := sub [1, 1, 1, 0, 1, 1] B5) rfl c17 ?_
    refine TT.seq (x := sub [1, 1, 1, 0, 1, 0, 0] B5) (y := sub [1, 1, 1, 0, 1, 0, 1] B5) ?_
    refine TT.region (id := 4) (n := 2) (ops := (opsOf (sub [1, 1, 1, 0, 1, 0, 0] B5))) [(.quiet, none), (.pure, none)] rfl ?_
    show DL _ _ _ _ _ _ _ _ _ _ [0, 1] _ _
    obtain ⟨t19, h20, h21⟩ := bind_some h18
    refine DL.qu 37 (.bool t19) rfl (f_call rfl rfl (args_val (vs := []) rfl) (fun w => enter16 _ w) (fun w => law21_known.val h20 w)) ?_
    refine DL.pu 10 (.bool t19) rfl (p_assign rfl rfl) ?_
    refine DL.nil ?_
    obtain rfl := Option.some.inj h21
    exact ret1 Try.func5 rfl (ResV.tmp rfl) rfl
  · replace c17 := Bool.eq_false_iff.mpr c17
    have h22 := ite_false c17 h16
    refine TT.cond_false (x := sub [1, 1, 1, 0, 1, 0] B5) (y := sub [1, 1, 1, 0, 1, 1] B5) rfl c17 ?_
    refine TT.skip ?_
    refine TT.seq (x := sub [1, 1, 1, 1, 0] B5) (y := sub [1, 1, 1, 1, 1] B5) ?_
    refine TT.region (id := 5) (n := 11) (ops := (opsOf (sub [1, 1, 1, 1, 0] B5))) [(.quiet, none), (.pure, none), (.pure, none), (.pure, none), (.quiet, none), (.pure, none), (.pure, none), (.pure, none), (.alloc, none), (.store, none), (.pure, none)] rfl ?_
    show DL _ _ _ _ _ _ _ _ _ _ [0, 1, 2, 3, 4, 5, 6, 7, 8, 9, 10] _ _
    refine DL.qu 39 (.agg #[.int .i64 a0_0, .int .i64 a0_1, .int .i64 a0_2, .int .i64 a0_3]) rfl (f_loadA (j := 3) ty_a26 ty_s26 rfl rfl rfl rfl) ?_
    refine DL.pu 40 (.int .i64 a2) rfl (p_move rfl rfl) ?_
    refine DL.pu 41 (.int .i64 a3) rfl (p_move rfl rfl) ?_
    refine DL.pu 42 (.int .i64 (ior .i64 a2 a3)) rfl (p_or rfl rfl rfl) ?_
    obtain ⟨⟨t23_0_0, t23_0_1, t23_0_2, t23_0_3, t23_1⟩, h24, h25⟩ := bind_some h22
    refine DL.qu 43 (.tuple #[.agg #[.int .i64 t23_0_0, .int .i64 t23_0_1, .int .i64 t23_0_2, .int .i64 t23_0_3], .int .i64 t23_1]) rfl (f_call rfl rfl (args_val (vs := [.agg #[.int .i64 a0_0, .int .i64 a0_1, .int .i64 a0_2, .int .i64 a0_3], .int .i64 (ior .i64 a2 a3)]) rfl) (fun w => enter10 _ w) (fun w => policy_Lower.val h24 w)) ?_
    refine DL.pu 38 (.tuple #[.agg #[.int .i64 t23_0_0, .int .i64 t23_0_1, .int .i64 t23_0_2, .int .i64 t23_0_3], .int .i64 t23_1]) rfl (p_move rfl rfl) ?_
    refine DL.pu 44 (.agg #[.int .i64 t23_0_0, .int .i64 t23_0_1, .int .i64 t23_0_2, .int .i64 t23_0_3]) rfl (p_extract rfl rfl rfl) ?_
    refine DL.pu 45 (.int .i64 t23_1) rfl (p_extract rfl rfl rfl) ?_
    refine DL.new (ob := .cells (#[.int .i64 0, .int .i64 0, .int .i64 0, .int .i64 0]) 26) (mk := fun b => ptr b 0) (i := 8) rfl (Wn.none rfl) rfl rfl rfl (f_alloc ty_z26 rfl) ?_
    intro b26 hb26
    refine DL.put (H' := [(some b26, .cells (#[.int .i64 t23_0_0, .int .i64 t23_0_1, .int .i64 t23_0_2, .int .i64 t23_0_3]) 26 (0, 0)), (some b10, .cells (#[.int .i64 t7_0_0, .int .i64 t7_0_1, .int .i64 t7_0_2, .int .i64 t7_0_3]) 26 (0, 0)), (some b6, .cells (#[.int .i64 t3_0_0, .int .i64 t3_0_1, .int .i64 t3_0_2, .int .i64 t3_0_3]) 26 (0, 0)), (some b2, .cells (#[.int .i64 a1_0, .int .i64 a1_1, .int .i64 a1_2, .int .i64 a1_3]) 26 (0, 0)), (some b1, .cells (#[.int .i64 a0_0, .int .i64 a0_1, .int .i64 a0_2, .int .i64 a0_3]) 26 (0, 0))]) (i := 9) rfl (Wn.none rfl) rfl rfl (f_storeA (j := 0) ty_s26 rfl rfl rfl (by simp [OneCell]) rfl rfl rfl) (keep_none rfl) ?_
    refine DL.pu 16 (.int .i64 t23_1) rfl (p_assign rfl rfl) ?_
    refine DL.nil ?_
    refine TT.seq (x := sub [1, 1, 1, 1, 1, 0] B5) (y := sub [1, 1, 1, 1, 1, 1] B5) ?_
    refine TT.region (id := 6) (n := 9) (ops := (opsOf (sub [1, 1, 1, 1, 1, 0] B5))) [(.quiet, none), (.pure, none), (.quiet, none), (.pure, none), (.pure, none), (.pure, none), (.alloc, none), (.store, none), (.pure, none)] rfl ?_
    show DL _ _ _ _ _ _ _ _ _ _ [0, 1, 2, 3, 4, 5, 6, 7, 8] _ _
    refine DL.qu 47 (.agg #[.int .i64 t7_0_0, .int .i64 t7_0_1, .int .i64 t7_0_2, .int .i64 t7_0_3]) rfl (f_loadA (j := 1) ty_a26 ty_s26 rfl rfl rfl rfl) ?_
    refine DL.pu 48 (.int .i64 a2) rfl (p_move rfl rfl) ?_
    obtain ⟨⟨t27_0_0, t27_0_1, t27_0_2, t27_0_3, t27_1⟩, h28, h29⟩ := bind_some h25
    refine DL.qu 49 (.tuple #[.agg #[.int .i64 t27_0_0, .int .i64 t27_0_1, .int .i64 t27_0_2, .int .i64 t27_0_3], .int .i64 t27_1]) rfl (f_call rfl rfl (args_val (vs := [.agg #[.int .i64 t7_0_0, .int .i64 t7_0_1, .int .i64 t7_0_2, .int .i64 t7_0_3], .int .i64 a2]) rfl) (fun w => enter10 _ w) (fun w => policy_Lower.val h28 w)) ?_
    refine DL.pu 46 (.tuple #[.agg #[.int .i64 t27_0_0, .int .i64 t27_0_1, .int .i64 t27_0_2, .int .i64 t27_0_3], .int .i64 t27_1]) rfl (p_move rfl rfl) ?_
    refine DL.pu 50 (.agg #[.int .i64 t27_0_0, .int .i64 t27_0_1, .int .i64 t27_0_2, .int .i64 t27_0_3]) rfl (p_extract rfl rfl rfl) ?_
    refine DL.pu 51 (.int .i64 t27_1) rfl (p_extract rfl rfl rfl) ?_
    refine DL.new (ob := .cells (#[.int .i64 0, .int .i64 0, .int .i64 0, .int .i64 0]) 26) (mk := fun b => ptr b 0) (i := 6) rfl (Wn.none rfl) rfl rfl rfl (f_alloc ty_z26 rfl) ?_
    intro b30 hb30
    refine DL.put (H' := [(some b30, .cells (#[.int .i64 t27_0_0, .int .i64 t27_0_1, .int .i64 t27_0_2, .int .i64 t27_0_3]) 26 (0, 0)), (some b26, .cells (#[.int .i64 t23_0_0, .int .i64 t23_0_1, .int .i64 t23_0_2, .int .i64 t23_0_3]) 26 (0, 0)), (some b10, .cells (#[.int .i64 t7_0_0, .int .i64 t7_0_1, .int .i64 t7_0_2, .int .i64 t7_0_3]) 26 (0, 0)), (some b6, .cells (#[.int .i64 t3_0_0, .int .i64 t3_0_1, .int .i64 t3_0_2, .int .i64 t3_0_3]) 26 (0, 0)), (some b2, .cells (#[.int .i64 a1_0, .int .i64 a1_1, .int .i64 a1_2, .int .i64 a1_3]) 26 (0, 0)), (some b1, .cells (#[.int .i64 a0_0, .int .i64 a0_1, .int .i64 a0_2, .int .i64 a0_3]) 26 (0, 0))]) (i := 7) rfl (Wn.none rfl) rfl rfl (f_storeA (j := 0) ty_s26 rfl rfl rfl (by simp [OneCell]) rfl rfl rfl) (keep_none rfl) ?_
    refine DL.pu 18 (.int .i64 t27_1) rfl (p_assign rfl rfl) ?_
    refine DL.nil ?_
    refine TT.seq (x := sub [1, 1, 1, 1, 1, 1, 0] B5) (y := sub [1, 1, 1, 1, 1, 1, 1] B5) ?_
    refine TT.seq (x := sub [1, 1, 1, 1, 1, 1, 0, 0] B5) (y := sub [1, 1, 1, 1, 1, 1, 0, 1] B5) ?_
    refine TT.regionD (id := 7) (ops := (opsOf (sub [1, 1, 1, 1, 1, 1, 0, 0] B5))) [0, 1, 2, 3, 4, 5, 6, 7, 8, 9, 10, 11, 12, 13, 14, 15, 16, 17, 18, 19, 20, 21, 22, 23, 24, 25, 26, 27, 28, 29, 30, 31, 32, 33, 34, 35, 36, 37, 38, 39, 40, 41, 42, 43] [0, 1, 0, 7, 15, 31, 63, 127, 127, 511, 1023, 2047, 4095, 4095, 16383, 32767, 65535, 131071, 262143, 131071, 655359, 2097151, 4194303, 8388607, 16777215, 33554431, 16777215, 83886079, 268435455, 536870911, 1073741823, 2147483647, 4294967295, 2147483647, 10737418239, 34359738367, 68719476735, 137438953471, 274877906943, 549755813887, 274877906943, 2199023255551, 4398046511103, 8796093022207] [(.pure, none), (.quiet, none), (.pure, none), (.quiet, none), (.pure, none), (.pure, none), (.pure, none), (.look, some 1), (.look, some 2), (.pure, none), (.pure, none), (.pure, none), (.look, some 0), (.look, some 2), (.pure, none), (.pure, none), (.pure, none), (.pure, none), (.look, some 2), (.pure, none), (.look, some 5), (.pure, none), (.pure, none), (.pure, none), (.pure, none), (.look, some 2), (.pure, none), (.look, some 5), (.pure, none), (.pure, none), (.pure, none), (.pure, none), (.look, some 2), (.pure, none), (.look, some 5), (.pure, none), (.pure, none), (.pure, none), (.look, some 2), (.quiet, none), (.look, some 5), (.quiet, none), (.pure, none), (.pure, none)] mixed (by kernel_rfl) ?_
    intro w31 hl31 hj31 hz31
    refine DL.pu 52 (.int .i64 t23_1) rfl (p_move rfl rfl) ?_
    obtain ⟨t32, h33, h34⟩ := bind_some h29
    refine DL.qu 53 (.int .i64 t32) rfl (f_call rfl rfl (args_val (vs := [.int .i64 t23_1]) rfl) (fun w => enter15 _ w) (fun w => law21_num.val h33 w)) ?_
    refine DL.pu 54 (.int .i64 t27_1) rfl (p_move rfl rfl) ?_
    obtain ⟨t35, h36, h37⟩ := bind_some h34
    refine DL.qu 55 (.int .i64 t35) rfl (f_call rfl rfl (args_val (vs := [.int .i64 t27_1]) rfl) (fun w => enter15 _ w) (fun w => law21_num.val h36 w)) ?_
    refine DL.pu 56 (.int .i64 (IntKind.i64.wrap (t32 + t35))) rfl (p_add rfl rfl rfl) ?_
    refine DL.pu 57 (.bool ((IntKind.i64.wrap (t32 + t35)) != 0)) rfl (p_neq rfl rfl rfl) ?_
    refine DL.pu 58 (.bool ((IntKind.i64.wrap (t32 + t35)) != 0)) rfl (p_move rfl rfl) ?_
    obtain ⟨q38, h39, h40⟩ := bind_some h37
    refine DL.cut [(4, .int .i64 a4), (5, ptr b1 0), (6, ptr b2 0), (13, ptr b10 0), (17, ptr b30 0), (62, .bool q38)] [11, 12, 13, 14, 15, 16, 17, 18, 19, 20, 21, 22, 23, 24, 25, 26, 27, 28, 29, 30, 31, 32, 33, 34, 35, 36, 37, 38, 39, 40, 41, 42, 43] ?_ (fun J41 => ?_)
    · refine DL.pu 63 (.bool q38) rfl (p_move rfl rfl) ?_
      obtain ⟨q48, h49, h50⟩ := bind_some h40
      refine DL.cut [(4, .int .i64 a4), (5, ptr b1 0), (6, ptr b2 0), (13, ptr b10 0), (67, .bool q48)] [16, 17, 18, 19, 20, 21, 22, 23, 24, 25, 26, 27, 28, 29, 30, 31, 32, 33, 34, 35, 36, 37, 38, 39, 40, 41, 42, 43] ?_ (fun J51 => ?_)
      · refine DL.pu 68 (.bool q48) rfl (p_move rfl rfl) ?_
        obtain ⟨q58, h59, h60⟩ := bind_some h50
        refine DL.cut [(4, .int .i64 a4), (5, ptr b1 0), (6, ptr b2 0), (13, ptr b10 0), (74, .bool q58)] [23, 24, 25, 26, 27, 28, 29, 30, 31, 32, 33, 34, 35, 36, 37, 38, 39, 40, 41, 42, 43] ?_ (fun J61 => ?_)
        · refine DL.pu 75 (.bool q58) rfl (p_move rfl rfl) ?_
          obtain ⟨q65, h66, h67⟩ := bind_some h60
          refine DL.cut [(4, .int .i64 a4), (5, ptr b1 0), (6, ptr b2 0), (13, ptr b10 0), (81, .bool q65)] [30, 31, 32, 33, 34, 35, 36, 37, 38, 39, 40, 41, 42, 43] ?_ (fun J68 => ?_)
          · refine DL.pu 82 (.bool q65) rfl (p_move rfl rfl) ?_
            obtain ⟨q72, h73, h74⟩ := bind_some h67
            refine DL.cut [(4, .int .i64 a4), (5, ptr b1 0), (6, ptr b2 0), (13, ptr b10 0), (88, .bool q72)] [37, 38, 39, 40, 41, 42, 43] ?_ (fun J75 => ?_)
            · refine DL.pu 89 (.bool q72) rfl (p_move rfl rfl) ?_
              obtain ⟨q79, h80, h81⟩ := bind_some h74
              refine DL.cut [(4, .int .i64 a4), (5, ptr b1 0), (6, ptr b2 0), (13, ptr b10 0), (95, .bool q79)] [] ?_ (fun J82 => ?_)
              · refine DL.nil' hl31 ?_
                by_cases c92 : q79 = true
                · have h93 := ite_true c92 h81
                  refine TT.cond_true (x := sub [1, 1, 1, 1, 1, 1, 0, 1, 0] B5) (y := sub [1, 1, 1, 1, 1, 1, 0, 1, 1] B5) rfl c92 ?_
                  refine TT.seq (x := sub [1, 1, 1, 1, 1, 1, 0, 1, 0, 0] B5) (y := sub [1, 1, 1, 1, 1, 1, 0, 1, 0, 1] B5) ?_
                  refine TT.region (id := 8) (n := 1) (ops := (opsOf (sub [1, 1, 1, 1, 1, 1, 0, 1, 0, 0] B5))) [(.pure, none)] rfl ?_
                  show DL _ _ _ _ _ _ _ _ _ _ [0] _ _
                  refine DL.pu 10 (.bool false) rfl (p_assign rfl rfl) ?_
                  refine DL.nil ?_
                  obtain rfl := Option.some.inj h93
                  exact ret1 Try.func5 rfl (ResV.tmp rfl) rfl
                · replace c92 := Bool.eq_false_iff.mpr c92
                  have h94 := ite_false c92 h81
                  refine TT.cond_false (x := sub [1, 1, 1, 1, 1, 1, 0, 1, 0] B5) (y := sub [1, 1, 1, 1, 1, 1, 0, 1, 1] B5) rfl c92 ?_
                  refine TT.skip ?_
                  refine TT.seq (x := sub [1, 1, 1, 1, 1, 1, 1, 0] B5) (y := sub [1, 1, 1, 1, 1, 1, 1, 1] B5) ?_
                  refine TT.region (id := 9) (n := 30) (ops := (opsOf (sub [1, 1, 1, 1, 1, 1, 1, 0] B5))) [(.quiet, none), (.pure, none), (.quiet, none), (.quiet, none), (.pure, none), (.pure, none), (.quiet, none), (.pure, none), (.quiet, none), (.quiet, none), (.pure, none), (.pure, none), (.pure, none), (.quiet, none), (.quiet, none), (.quiet, none), (.quiet, none), (.pure, none), (.pure, none), (.quiet, none), (.quiet, none), (.quiet, none), (.quiet, none), (.pure, none), (.pure, none), (.pure, none), (.pure, none), (.quiet, none), (.pure, none), (.pure, none)] rfl ?_
                  show DL _ _ _ _ _ _ _ _ _ _ [0, 1, 2, 3, 4, 5, 6, 7, 8, 9, 10, 11, 12, 13, 14, 15, 16, 17, 18, 19, 20, 21, 22, 23, 24, 25, 26, 27, 28, 29] _ _
                  refine DL.qu 96 (.agg #[.int .i64 t7_0_0, .int .i64 t7_0_1, .int .i64 t7_0_2, .int .i64 t7_0_3]) rfl (f_loadA (j := 2) ty_a26 ty_s26 rfl rfl rfl rfl) ?_
                  refine DL.pu 97 (.int .i64 a4) rfl (p_move rfl rfl) ?_
                  obtain ⟨t95, h96, h97⟩ := bind_some h94
                  refine DL.qu 98 (.int .i64 t95) rfl (f_call rfl rfl (args_val (vs := [.agg #[.int .i64 t7_0_0, .int .i64 t7_0_1, .int .i64 t7_0_2, .int .i64 t7_0_3], .int .i64 a4]) rfl) (fun w => enter17 _ w) (fun w => policy_Asked.val h96 w)) ?_
                  obtain ⟨t98, h99, h100⟩ := bind_some h97
                  refine DL.qu 99 (.int .i64 t98) rfl (f_call rfl rfl (args_val (vs := [.int .i64 t95]) rfl) (fun w => enter15 _ w) (fun w => law21_num.val h99 w)) ?_
                  refine DL.pu 100 (.bool (t98 != 0)) rfl (p_neq rfl rfl rfl) ?_
                  refine DL.pu 101 (.bool (t98 != 0)) rfl (p_move rfl rfl) ?_
                  obtain ⟨q101, h102, h103⟩ := bind_some h100
                  refine DL.cut [(5, ptr b1 0), (6, ptr b2 0), (13, ptr b10 0), (107, .bool q101)] [12, 13, 14, 15, 16, 17, 18, 19, 20, 21, 22, 23, 24, 25, 26, 27, 28, 29] ?_ (fun J104 => ?_)
                  · refine DL.pu 108 (.bool q101) rfl (p_move rfl rfl) ?_
                    obtain ⟨q114, h115, h116⟩ := bind_some h103
                    refine DL.cut [(121, .bool q114)] [26, 27, 28, 29] ?_ (fun J117 => ?_)
                    · refine DL.pu 122 (.bool q114) rfl (p_move rfl rfl) ?_
                      obtain ⟨q140, h141, h142⟩ := bind_some h116
                      refine DL.cut [(124, .bool q140)] [29] ?_ (fun J143 => ?_)
                      · refine DL.pu 10 (.bool q140) rfl (p_assign rfl rfl) ?_
                        refine DL.nil ?_
                        obtain rfl := Option.some.inj h142
                        exact ret1 Try.func5 rfl (ResV.tmp rfl) rfl
                      · by_cases c144 : q114 = true
                        · have h145 := ite_true c144 h141
                          obtain ⟨t146, h147, h148⟩ := bind_some h145
                          refine DL.quiet (v := .bool t146) rfl (Wn.yes c144 rfl rfl rfl rfl) rfl rfl rfl (f_call rfl rfl (args_val (vs := []) rfl) (fun w => enter16 _ w) (fun w => law21_known.val h147 w)) ?_
                          refine DL.pu 124 (.bool t146) rfl (p_pick_t c144 rfl rfl rfl) ?_
                          obtain rfl := Option.some.inj h148
                          exact DL.weak J143 (Sub.cons rfl (Sub.nil _))
                        · replace c144 := Bool.eq_false_iff.mpr c144
                          have h149 := ite_false c144 h141
                          refine DL.not (i := 27) rfl (Wn.no c144 rfl rfl rfl rfl) rfl rfl ?_
                          refine DL.pu 124 (.bool false) rfl (p_pick_f c144 rfl rfl rfl) ?_
                          obtain rfl := Option.some.inj h149
                          exact DL.weak J143 (Sub.cons rfl (Sub.nil _))
                    · by_cases c118 : q101 = true
                      · have h119 := ite_true c118 h115
                        refine DL.quiet (v := .agg #[.int .i64 t7_0_0, .int .i64 t7_0_1, .int .i64 t7_0_2, .int .i64 t7_0_3]) rfl (Wn.yes c118 rfl rfl rfl rfl) rfl rfl rfl (f_loadA (j := 2) ty_a26 ty_s26 rfl rfl rfl rfl) ?_
                        refine DL.quiet (v := .agg #[.int .i64 a1_0, .int .i64 a1_1, .int .i64 a1_2, .int .i64 a1_3]) rfl (Wn.yes c118 rfl rfl rfl rfl) rfl rfl rfl (f_loadA (j := 4) ty_a26 ty_s26 rfl rfl rfl rfl) ?_
                        obtain ⟨t120, h121, h122⟩ := bind_some h119
                        refine DL.quiet (v := .int .i64 t120) rfl (Wn.yes c118 rfl rfl rfl rfl) rfl rfl rfl (f_call rfl rfl (args_val (vs := [.agg #[.int .i64 t7_0_0, .int .i64 t7_0_1, .int .i64 t7_0_2, .int .i64 t7_0_3], .agg #[.int .i64 a1_0, .int .i64 a1_1, .int .i64 a1_2, .int .i64 a1_3]]) rfl) (fun w => enter19 _ w) (fun w => policy_Wraps.val h121 w)) ?_
                        obtain ⟨t123, h124, h125⟩ := bind_some h122
                        refine DL.quiet (v := .int .i64 t123) rfl (Wn.yes c118 rfl rfl rfl rfl) rfl rfl rfl (f_call rfl rfl (args_val (vs := [.int .i64 t120]) rfl) (fun w => enter15 _ w) (fun w => law21_num.val h124 w)) ?_
                        refine DL.pure (v := .bool (t123 != 0)) rfl (Wn.yes c118 rfl rfl rfl rfl) rfl rfl rfl (p_neq rfl rfl rfl) ?_
                        refine DL.pure (v := .bool (t123 != 0)) rfl (Wn.yes c118 rfl rfl rfl rfl) rfl rfl rfl (p_move rfl rfl) ?_
                        obtain ⟨q126, h127, h128⟩ := bind_some h125
                        refine DL.cut [(108, .bool q101), (120, .bool q126)] [25, 26, 27, 28, 29] ?_ (fun J129 => ?_)
                        · refine DL.pu 121 (.bool q126) rfl (p_pick_t c118 rfl rfl rfl) ?_
                          obtain rfl := Option.some.inj h128
                          exact DL.weak J117 (Sub.cons rfl (Sub.nil _))
                        · by_cases c130 : (t123 != 0) = true
                          · have h131 := ite_true c130 h127
                            refine DL.not (i := 19) rfl (Wn.yes c130 rfl rfl rfl rfl) rfl rfl ?_
                            refine DL.not (i := 20) rfl (Wn.yes c130 rfl rfl rfl rfl) rfl rfl ?_
                            refine DL.not (i := 21) rfl (Wn.yes c130 rfl rfl rfl rfl) rfl rfl ?_
                            refine DL.not (i := 22) rfl (Wn.yes c130 rfl rfl rfl rfl) rfl rfl ?_
                            refine DL.not (i := 23) rfl (Wn.yes c130 rfl rfl rfl rfl) rfl rfl ?_
                            refine DL.pure (v := .bool true) rfl (Wn.yes c118 rfl rfl rfl rfl) rfl rfl rfl (p_pick_t c130 rfl rfl rfl) ?_
                            obtain rfl := Option.some.inj h131
                            exact DL.weak J129 (Sub.cons rfl (Sub.cons rfl (Sub.nil _)))
                          · replace c130 := Bool.eq_false_iff.mpr c130
                            have h132 := ite_false c130 h127
                            refine DL.quiet (v := .agg #[.int .i64 a0_0, .int .i64 a0_1, .int .i64 a0_2, .int .i64 a0_3]) rfl (Wn.no c130 rfl rfl rfl rfl) rfl rfl rfl (f_loadA (j := 5) ty_a26 ty_s26 rfl rfl rfl rfl) ?_
                            refine DL.quiet (v := .agg #[.int .i64 a1_0, .int .i64 a1_1, .int .i64 a1_2, .int .i64 a1_3]) rfl (Wn.no c130 rfl rfl rfl rfl) rfl rfl rfl (f_loadA (j := 4) ty_a26 ty_s26 rfl rfl rfl rfl) ?_
                            obtain ⟨t133, h134, h135⟩ := bind_some h132
                            refine DL.quiet (v := .int .i64 t133) rfl (Wn.no c130 rfl rfl rfl rfl) rfl rfl rfl (f_call rfl rfl (args_val (vs := [.agg #[.int .i64 a0_0, .int .i64 a0_1, .int .i64 a0_2, .int .i64 a0_3], .agg #[.int .i64 a1_0, .int .i64 a1_1, .int .i64 a1_2, .int .i64 a1_3]]) rfl) (fun w => enter19 _ w) (fun w => policy_Wraps.val h134 w)) ?_
                            obtain ⟨t136, h137, h138⟩ := bind_some h135
                            refine DL.quiet (v := .int .i64 t136) rfl (Wn.no c130 rfl rfl rfl rfl) rfl rfl rfl (f_call rfl rfl (args_val (vs := [.int .i64 t133]) rfl) (fun w => enter15 _ w) (fun w => law21_num.val h137 w)) ?_
                            refine DL.pure (v := .bool (t136 == 0)) rfl (Wn.no c130 rfl rfl rfl rfl) rfl rfl rfl (p_eql rfl rfl rfl) ?_
                            refine DL.pure (v := .bool (t136 == 0)) rfl (Wn.yes c118 rfl rfl rfl rfl) rfl rfl rfl (p_pick_f c130 rfl rfl rfl) ?_
                            obtain rfl := Option.some.inj h138
                            exact DL.weak J129 (Sub.cons rfl (Sub.cons rfl (Sub.nil _)))
                      · replace c118 := Bool.eq_false_iff.mpr c118
                        have h139 := ite_false c118 h115
                        refine DL.not (i := 13) rfl (Wn.no c118 rfl rfl rfl rfl) rfl rfl ?_
                        refine DL.not (i := 14) rfl (Wn.no c118 rfl rfl rfl rfl) rfl rfl ?_
                        refine DL.not (i := 15) rfl (Wn.no c118 rfl rfl rfl rfl) rfl rfl ?_
                        refine DL.not (i := 16) rfl (Wn.no c118 rfl rfl rfl rfl) rfl rfl ?_
                        refine DL.not (i := 17) rfl (Wn.no c118 rfl rfl rfl rfl) rfl rfl ?_
                        refine DL.not (i := 18) rfl (Wn.no c118 rfl rfl rfl rfl) rfl rfl ?_
                        refine DL.not (i := 19) rfl (Wn.undef rfl rfl rfl) rfl rfl ?_
                        refine DL.not (i := 20) rfl (Wn.undef rfl rfl rfl) rfl rfl ?_
                        refine DL.not (i := 21) rfl (Wn.undef rfl rfl rfl) rfl rfl ?_
                        refine DL.not (i := 22) rfl (Wn.undef rfl rfl rfl) rfl rfl ?_
                        refine DL.not (i := 23) rfl (Wn.undef rfl rfl rfl) rfl rfl ?_
                        refine DL.not (i := 24) rfl (Wn.no c118 rfl rfl rfl rfl) rfl rfl ?_
                        refine DL.pu 121 (.bool false) rfl (p_pick_f c118 rfl rfl rfl) ?_
                        obtain rfl := Option.some.inj h139
                        exact DL.weak J117 (Sub.cons rfl (Sub.nil _))
                  · by_cases c105 : (t98 != 0) = true
                    · have h106 := ite_true c105 h102
                      refine DL.not (i := 6) rfl (Wn.yes c105 rfl rfl rfl rfl) rfl rfl ?_
                      refine DL.not (i := 7) rfl (Wn.yes c105 rfl rfl rfl rfl) rfl rfl ?_
                      refine DL.not (i := 8) rfl (Wn.yes c105 rfl rfl rfl rfl) rfl rfl ?_
                      refine DL.not (i := 9) rfl (Wn.yes c105 rfl rfl rfl rfl) rfl rfl ?_
                      refine DL.not (i := 10) rfl (Wn.yes c105 rfl rfl rfl rfl) rfl rfl ?_
                      refine DL.pu 107 (.bool true) rfl (p_pick_t c105 rfl rfl rfl) ?_
                      obtain rfl := Option.some.inj h106
                      exact DL.weak J104 (Sub.cons rfl (Sub.cons rfl (Sub.cons rfl (Sub.cons rfl (Sub.nil _)))))
                    · replace c105 := Bool.eq_false_iff.mpr c105
                      have h107 := ite_false c105 h102
                      refine DL.quiet (v := .agg #[.int .i64 a0_0, .int .i64 a0_1, .int .i64 a0_2, .int .i64 a0_3]) rfl (Wn.no c105 rfl rfl rfl rfl) rfl rfl rfl (f_loadA (j := 5) ty_a26 ty_s26 rfl rfl rfl rfl) ?_
                      refine DL.pure (v := .int .i64 a4) rfl (Wn.no c105 rfl rfl rfl rfl) rfl rfl rfl (p_move rfl rfl) ?_
                      obtain ⟨t108, h109, h110⟩ := bind_some h107
                      refine DL.quiet (v := .int .i64 t108) rfl (Wn.no c105 rfl rfl rfl rfl) rfl rfl rfl (f_call rfl rfl (args_val (vs := [.agg #[.int .i64 a0_0, .int .i64 a0_1, .int .i64 a0_2, .int .i64 a0_3], .int .i64 a4]) rfl) (fun w => enter17 _ w) (fun w => policy_Asked.val h109 w)) ?_
                      obtain ⟨t111, h112, h113⟩ := bind_some h110
                      refine DL.quiet (v := .int .i64 t111) rfl (Wn.no c105 rfl rfl rfl rfl) rfl rfl rfl (f_call rfl rfl (args_val (vs := [.int .i64 t108]) rfl) (fun w => enter15 _ w) (fun w => law21_num.val h112 w)) ?_
                      refine DL.pure (v := .bool (t111 == 0)) rfl (Wn.no c105 rfl rfl rfl rfl) rfl rfl rfl (p_eql rfl rfl rfl) ?_
                      refine DL.pu 107 (.bool (t111 == 0)) rfl (p_pick_f c105 rfl rfl rfl) ?_
                      obtain rfl := Option.some.inj h113
                      exact DL.weak J104 (Sub.cons rfl (Sub.cons rfl (Sub.cons rfl (Sub.cons rfl (Sub.nil _)))))
              · by_cases c83 : q72 = true
                · have h84 := ite_true c83 h80
                  refine DL.not (i := 38) rfl (Wn.yes c83 rfl rfl rfl rfl) rfl rfl ?_
                  refine DL.not (i := 39) rfl (Wn.yes c83 rfl rfl rfl rfl) rfl rfl ?_
                  refine DL.not (i := 40) rfl (Wn.yes c83 rfl rfl rfl rfl) rfl rfl ?_
                  refine DL.not (i := 41) rfl (Wn.yes c83 rfl rfl rfl rfl) rfl rfl ?_
                  refine DL.not (i := 42) rfl (Wn.yes c83 rfl rfl rfl rfl) rfl rfl ?_
                  refine DL.pu 95 (.bool true) rfl (p_pick_t c83 rfl rfl rfl) ?_
                  obtain rfl := Option.some.inj h84
                  exact DL.weak J82 (Sub.cons rfl (Sub.cons rfl (Sub.cons rfl (Sub.cons rfl (Sub.cons rfl (Sub.nil _))))))
                · replace c83 := Bool.eq_false_iff.mpr c83
                  have h85 := ite_false c83 h80
                  refine DL.look (v := .agg #[.int .i64 t7_0_0, .int .i64 t7_0_1, .int .i64 t7_0_2, .int .i64 t7_0_3]) (x := 2) (b := b10) (i := 38) rfl (Wn.no c83 rfl rfl rfl rfl) rfl rfl rfl rfl rfl (List.mem_of_getElem? (i := 2) rfl) (b_loadA ty_a26 ty_s26 rfl rfl rfl) ?_
                  obtain ⟨t86, h87, h88⟩ := bind_some h85
                  refine DL.quiet (v := .bool t86) rfl (Wn.no c83 rfl rfl rfl rfl) rfl rfl rfl (f_call rfl rfl (args_val (vs := [.agg #[.int .i64 t7_0_0, .int .i64 t7_0_1, .int .i64 t7_0_2, .int .i64 t7_0_3]]) rfl) (fun w => enter21 _ w) (fun w => policy_Kept.val h87 w)) ?_
                  refine DL.look (v := .agg #[.int .i64 a0_0, .int .i64 a0_1, .int .i64 a0_2, .int .i64 a0_3]) (x := 5) (b := b1) (i := 40) rfl (Wn.no c83 rfl rfl rfl rfl) rfl rfl rfl rfl rfl (List.mem_of_getElem? (i := 5) rfl) (b_loadA ty_a26 ty_s26 rfl rfl rfl) ?_
                  obtain ⟨t89, h90, h91⟩ := bind_some h88
                  refine DL.quiet (v := .bool t89) rfl (Wn.no c83 rfl rfl rfl rfl) rfl rfl rfl (f_call rfl rfl (args_val (vs := [.agg #[.int .i64 a0_0, .int .i64 a0_1, .int .i64 a0_2, .int .i64 a0_3]]) rfl) (fun w => enter21 _ w) (fun w => policy_Kept.val h90 w)) ?_
                  refine DL.pure (v := .bool (!(t86 == t89))) rfl (Wn.no c83 rfl rfl rfl rfl) rfl rfl rfl (p_neb ty_u4 rfl rfl rfl) ?_
                  refine DL.pu 95 (.bool (!(t86 == t89))) rfl (p_pick_f c83 rfl rfl rfl) ?_
                  obtain rfl := Option.some.inj h91
                  exact DL.weak J82 (Sub.cons rfl (Sub.cons rfl (Sub.cons rfl (Sub.cons rfl (Sub.cons rfl (Sub.nil _))))))
            · by_cases c76 : q65 = true
              · have h77 := ite_true c76 h73
                refine DL.not (i := 31) rfl (Wn.yes c76 rfl rfl rfl rfl) rfl rfl ?_
                refine DL.not (i := 32) rfl (Wn.yes c76 rfl rfl rfl rfl) rfl rfl ?_
                refine DL.not (i := 33) rfl (Wn.yes c76 rfl rfl rfl rfl) rfl rfl ?_
                refine DL.not (i := 34) rfl (Wn.yes c76 rfl rfl rfl rfl) rfl rfl ?_
                refine DL.not (i := 35) rfl (Wn.yes c76 rfl rfl rfl rfl) rfl rfl ?_
                refine DL.pu 88 (.bool true) rfl (p_pick_t c76 rfl rfl rfl) ?_
                obtain rfl := Option.some.inj h77
                exact DL.weak J75 (Sub.cons rfl (Sub.cons rfl (Sub.cons rfl (Sub.cons rfl (Sub.cons rfl (Sub.nil _))))))
              · replace c76 := Bool.eq_false_iff.mpr c76
                have h78 := ite_false c76 h73
                refine DL.pure (v := ptr b10 1) rfl (Wn.no c76 rfl rfl rfl rfl) rfl rfl rfl (p_fieldAddr ty_f26_1 rfl rfl) ?_
                refine DL.look (v := .int .i64 t7_0_1) (x := 2) (b := b10) (i := 32) rfl (Wn.no c76 rfl rfl rfl rfl) rfl rfl rfl rfl rfl (List.mem_of_getElem? (i := 2) rfl) (b_load ty_a23 rfl rfl rfl) ?_
                refine DL.pure (v := ptr b1 1) rfl (Wn.no c76 rfl rfl rfl rfl) rfl rfl rfl (p_fieldAddr ty_f26_1 rfl rfl) ?_
                refine DL.look (v := .int .i64 a0_1) (x := 5) (b := b1) (i := 34) rfl (Wn.no c76 rfl rfl rfl rfl) rfl rfl rfl rfl rfl (List.mem_of_getElem? (i := 5) rfl) (b_load ty_a23 rfl rfl rfl) ?_
                refine DL.pure (v := .bool (t7_0_1 != a0_1)) rfl (Wn.no c76 rfl rfl rfl rfl) rfl rfl rfl (p_neq rfl rfl rfl) ?_
                refine DL.pu 88 (.bool (t7_0_1 != a0_1)) rfl (p_pick_f c76 rfl rfl rfl) ?_
                obtain rfl := Option.some.inj h78
                exact DL.weak J75 (Sub.cons rfl (Sub.cons rfl (Sub.cons rfl (Sub.cons rfl (Sub.cons rfl (Sub.nil _))))))
          · by_cases c69 : q58 = true
            · have h70 := ite_true c69 h66
              refine DL.not (i := 24) rfl (Wn.yes c69 rfl rfl rfl rfl) rfl rfl ?_
              refine DL.not (i := 25) rfl (Wn.yes c69 rfl rfl rfl rfl) rfl rfl ?_
              refine DL.not (i := 26) rfl (Wn.yes c69 rfl rfl rfl rfl) rfl rfl ?_
              refine DL.not (i := 27) rfl (Wn.yes c69 rfl rfl rfl rfl) rfl rfl ?_
              refine DL.not (i := 28) rfl (Wn.yes c69 rfl rfl rfl rfl) rfl rfl ?_
              refine DL.pu 81 (.bool true) rfl (p_pick_t c69 rfl rfl rfl) ?_
              obtain rfl := Option.some.inj h70
              exact DL.weak J68 (Sub.cons rfl (Sub.cons rfl (Sub.cons rfl (Sub.cons rfl (Sub.cons rfl (Sub.nil _))))))
            · replace c69 := Bool.eq_false_iff.mpr c69
              have h71 := ite_false c69 h66
              refine DL.pure (v := ptr b10 0) rfl (Wn.no c69 rfl rfl rfl rfl) rfl rfl rfl (p_fieldAddr ty_f26_0 rfl rfl) ?_
              refine DL.look (v := .int .i64 t7_0_0) (x := 2) (b := b10) (i := 25) rfl (Wn.no c69 rfl rfl rfl rfl) rfl rfl rfl rfl rfl (List.mem_of_getElem? (i := 2) rfl) (b_load ty_a22 rfl rfl rfl) ?_
              refine DL.pure (v := ptr b1 0) rfl (Wn.no c69 rfl rfl rfl rfl) rfl rfl rfl (p_fieldAddr ty_f26_0 rfl rfl) ?_
              refine DL.look (v := .int .i64 a0_0) (x := 5) (b := b1) (i := 27) rfl (Wn.no c69 rfl rfl rfl rfl) rfl rfl rfl rfl rfl (List.mem_of_getElem? (i := 5) rfl) (b_load ty_a22 rfl rfl rfl) ?_
              refine DL.pure (v := .bool (t7_0_0 != a0_0)) rfl (Wn.no c69 rfl rfl rfl rfl) rfl rfl rfl (p_neq rfl rfl rfl) ?_
              refine DL.pu 81 (.bool (t7_0_0 != a0_0)) rfl (p_pick_f c69 rfl rfl rfl) ?_
              obtain rfl := Option.some.inj h71
              exact DL.weak J68 (Sub.cons rfl (Sub.cons rfl (Sub.cons rfl (Sub.cons rfl (Sub.cons rfl (Sub.nil _))))))
        · by_cases c62 : q48 = true
          · have h63 := ite_true c62 h59
            refine DL.not (i := 17) rfl (Wn.yes c62 rfl rfl rfl rfl) rfl rfl ?_
            refine DL.not (i := 18) rfl (Wn.yes c62 rfl rfl rfl rfl) rfl rfl ?_
            refine DL.not (i := 19) rfl (Wn.yes c62 rfl rfl rfl rfl) rfl rfl ?_
            refine DL.not (i := 20) rfl (Wn.yes c62 rfl rfl rfl rfl) rfl rfl ?_
            refine DL.not (i := 21) rfl (Wn.yes c62 rfl rfl rfl rfl) rfl rfl ?_
            refine DL.pu 74 (.bool true) rfl (p_pick_t c62 rfl rfl rfl) ?_
            obtain rfl := Option.some.inj h63
            exact DL.weak J61 (Sub.cons rfl (Sub.cons rfl (Sub.cons rfl (Sub.cons rfl (Sub.cons rfl (Sub.nil _))))))
          · replace c62 := Bool.eq_false_iff.mpr c62
            have h64 := ite_false c62 h59
            refine DL.pure (v := ptr b10 3) rfl (Wn.no c62 rfl rfl rfl rfl) rfl rfl rfl (p_fieldAddr ty_f26_3 rfl rfl) ?_
            refine DL.look (v := .int .i64 t7_0_3) (x := 2) (b := b10) (i := 18) rfl (Wn.no c62 rfl rfl rfl rfl) rfl rfl rfl rfl rfl (List.mem_of_getElem? (i := 2) rfl) (b_load ty_a24 rfl rfl rfl) ?_
            refine DL.pure (v := ptr b1 3) rfl (Wn.no c62 rfl rfl rfl rfl) rfl rfl rfl (p_fieldAddr ty_f26_3 rfl rfl) ?_
            refine DL.look (v := .int .i64 a0_3) (x := 5) (b := b1) (i := 20) rfl (Wn.no c62 rfl rfl rfl rfl) rfl rfl rfl rfl rfl (List.mem_of_getElem? (i := 5) rfl) (b_load ty_a24 rfl rfl rfl) ?_
            refine DL.pure (v := .bool (t7_0_3 != a0_3)) rfl (Wn.no c62 rfl rfl rfl rfl) rfl rfl rfl (p_neq rfl rfl rfl) ?_
            refine DL.pu 74 (.bool (t7_0_3 != a0_3)) rfl (p_pick_f c62 rfl rfl rfl) ?_
            obtain rfl := Option.some.inj h64
            exact DL.weak J61 (Sub.cons rfl (Sub.cons rfl (Sub.cons rfl (Sub.cons rfl (Sub.cons rfl (Sub.nil _))))))
      · by_cases c52 : q38 = true
        · have h53 := ite_true c52 h49
          refine DL.not (i := 12) rfl (Wn.yes c52 rfl rfl rfl rfl) rfl rfl ?_
          refine DL.not (i := 13) rfl (Wn.yes c52 rfl rfl rfl rfl) rfl rfl ?_
          refine DL.not (i := 14) rfl (Wn.yes c52 rfl rfl rfl rfl) rfl rfl ?_
          refine DL.pu 67 (.bool true) rfl (p_pick_t c52 rfl rfl rfl) ?_
          obtain rfl := Option.some.inj h53
          exact DL.weak J51 (Sub.cons rfl (Sub.cons rfl (Sub.cons rfl (Sub.cons rfl (Sub.cons rfl (Sub.nil _))))))
        · replace c52 := Bool.eq_false_iff.mpr c52
          have h54 := ite_false c52 h49
          refine DL.look (v := .agg #[.int .i64 t27_0_0, .int .i64 t27_0_1, .int .i64 t27_0_2, .int .i64 t27_0_3]) (x := 0) (b := b30) (i := 12) rfl (Wn.no c52 rfl rfl rfl rfl) rfl rfl rfl rfl rfl (List.mem_of_getElem? (i := 0) rfl) (b_loadA ty_a26 ty_s26 rfl rfl rfl) ?_
          refine DL.look (v := .agg #[.int .i64 t7_0_0, .int .i64 t7_0_1, .int .i64 t7_0_2, .int .i64 t7_0_3]) (x := 2) (b := b10) (i := 13) rfl (Wn.no c52 rfl rfl rfl rfl) rfl rfl rfl rfl rfl (List.mem_of_getElem? (i := 2) rfl) (b_loadA ty_a26 ty_s26 rfl rfl rfl) ?_
          obtain ⟨t55, e56, h57⟩ := nm_some h54
          refine DL.pure (v := .bool t55) rfl (Wn.no c52 rfl rfl rfl rfl) rfl rfl rfl (by rw [e56]; exact p_neAgg ty_g26 (fun w => eqs26 (d := 9998) t27_0_0 t27_0_1 t27_0_2 t27_0_3 t7_0_0 t7_0_1 t7_0_2 t7_0_3 w) rfl rfl rfl) ?_
          refine DL.pu 67 (.bool t55) rfl (p_pick_f c52 rfl rfl rfl) ?_
          obtain rfl := Option.some.inj h57
          exact DL.weak J51 (Sub.cons rfl (Sub.cons rfl (Sub.cons rfl (Sub.cons rfl (Sub.cons rfl (Sub.nil _))))))
    · by_cases c42 : ((IntKind.i64.wrap (t32 + t35)) != 0) = true
      · have h43 := ite_true c42 h39
        refine DL.not (i := 7) rfl (Wn.yes c42 rfl rfl rfl rfl) rfl rfl ?_
        refine DL.not (i := 8) rfl (Wn.yes c42 rfl rfl rfl rfl) rfl rfl ?_
        refine DL.not (i := 9) rfl (Wn.yes c42 rfl rfl rfl rfl) rfl rfl ?_
        refine DL.pu 62 (.bool true) rfl (p_pick_t c42 rfl rfl rfl) ?_
        obtain rfl := Option.some.inj h43
        exact DL.weak J41 (Sub.cons rfl (Sub.cons rfl (Sub.cons rfl (Sub.cons rfl (Sub.cons rfl (Sub.cons rfl (Sub.nil _)))))))
      · replace c42 := Bool.eq_false_iff.mpr c42
        have h44 := ite_false c42 h39
        refine DL.look (v := .agg #[.int .i64 t23_0_0, .int .i64 t23_0_1, .int .i64 t23_0_2, .int .i64 t23_0_3]) (x := 1) (b := b26) (i := 7) rfl (Wn.no c42 rfl rfl rfl rfl) rfl rfl rfl rfl rfl (List.mem_of_getElem? (i := 1) rfl) (b_loadA ty_a26 ty_s26 rfl rfl rfl) ?_
        refine DL.look (v := .agg #[.int .i64 t7_0_0, .int .i64 t7_0_1, .int .i64 t7_0_2, .int .i64 t7_0_3]) (x := 2) (b := b10) (i := 8) rfl (Wn.no c42 rfl rfl rfl rfl) rfl rfl rfl rfl rfl (List.mem_of_getElem? (i := 2) rfl) (b_loadA ty_a26 ty_s26 rfl rfl rfl) ?_
        obtain ⟨t45, e46, h47⟩ := nm_some h44
        refine DL.pure (v := .bool t45) rfl (Wn.no c42 rfl rfl rfl rfl) rfl rfl rfl (by rw [e46]; exact p_neAgg ty_g26 (fun w => eqs26 (d := 9998) t23_0_0 t23_0_1 t23_0_2 t23_0_3 t7_0_0 t7_0_1 t7_0_2 t7_0_3 w) rfl rfl rfl) ?_
        refine DL.pu 62 (.bool t45) rfl (p_pick_f c42 rfl rfl rfl) ?_
        obtain rfl := Option.some.inj h47
        exact DL.weak J41 (Sub.cons rfl (Sub.cons rfl (Sub.cons rfl (Sub.cons rfl (Sub.cons rfl (Sub.cons rfl (Sub.nil _)))))))
theorem law21_PolicyLess.val {a0_0 : Int} {a0_1 : Int} {a0_2 : Int} {a0_3 : Int} {a1_0 : Int} {a1_1 : Int} {a1_2 : Int} {a1_3 : Int} {a2 : Int} {a3 : Int} {a4 : Int} {r : Bool} (h : law21_PolicyLess.f a0_0 a0_1 a0_2 a0_3 a1_0 a1_1 a1_2 a1_3 a2 a3 a4 = some r) (w : World) : Calls Try.prog 5 #[.agg #[.int .i64 a0_0, .int .i64 a0_1, .int .i64 a0_2, .int .i64 a0_3], .agg #[.int .i64 a1_0, .int .i64 a1_1, .int .i64 a1_2, .int .i64 a1_3], .int .i64 a2, .int .i64 a3, .int .i64 a4] w fun e w' => e = .returned (.bool r) ∧ Below w.heap.size w w' :=
  calls_value (law21_PolicyLess.ok h w)

end Go.Proofs.Ytbnmoonelaolcaa
