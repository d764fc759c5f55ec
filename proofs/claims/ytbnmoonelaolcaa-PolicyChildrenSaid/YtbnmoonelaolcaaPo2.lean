import Derived.Test.YtbnmoonelaolcaaPo1
namespace Go.Proofs.Ytbnmoonelaolcaa
open Go Go.HW Go.RowKit
set_option linter.unusedVariables false
set_option linter.unusedSimpArgs false

/-! ### escutcheon/escutcheonlaw21.PolicyChildren: function 3 -/
noncomputable def B3 : Code := bodyOf Try.f3
def law21_PolicyChildren.f (a0_0 : Int) (a0_1 : Int) (a0_2 : Int) (a0_3 : Int) (a1_0 : Int) (a1_1 : Int) (a1_2 : Int) (a1_3 : Int) (a2 : Int) (a3 : Int) (a4 : Int) : Option (Bool) := (policy_New.f a2 a3 a4).bind fun (t3_0_0, t3_0_1, t3_0_2, t3_0_3, t3_1) => (policy_Derived.f a0_0 a0_1 a0_2 a0_3 a3 a4).bind fun (t7_0_0, t7_0_1, t7_0_2, t7_0_3, t7_1) => (policy_Unwrapped.f a0_0 a0_1 a0_2 a0_3 a1_0 a1_1 a1_2 a1_3 a4).bind fun (t11_0_0, t11_0_1, t11_0_2, t11_0_3, t11_1) => (policy_Lower.f a0_0 a0_1 a0_2 a0_3 a4).bind fun (t15_0_0, t15_0_1, t15_0_2, t15_0_3, t15_1) => (ref21_New.f a2 a3 a4).bind fun (t19_0_0, t19_0_1, t19_0_2, t19_0_3, t19_1) => (ref21_Derived.f a0_0 a0_1 a0_2 a0_3 a3 a4).bind fun (t23_0_0, t23_0_1, t23_0_2, t23_0_3, t23_1) => (ref21_Unwrapped.f a0_0 a0_1 a0_2 a0_3 a1_0 a1_1 a1_2 a1_3 a4).bind fun (t27_0_0, t27_0_1, t27_0_2, t27_0_3, t27_1) => (ref21_Lower.f a0_0 a0_1 a0_2 a0_3 a4).bind fun (t31_0_0, t31_0_1, t31_0_2, t31_0_3, t31_1) => nm (t3_0_0 == t19_0_0 && (t3_0_1 == t19_0_1 && (t3_0_2 == t19_0_2 && (t3_0_3 == t19_0_3 && true)))) fun t35 => (if t35 = true then (nm (t7_0_0 == t23_0_0 && (t7_0_1 == t23_0_1 && (t7_0_2 == t23_0_2 && (t7_0_3 == t23_0_3 && true)))) fun t44 => some t44) else (some false)).bind fun q38 => (if q38 = true then (nm (t11_0_0 == t27_0_0 && (t11_0_1 == t27_0_1 && (t11_0_2 == t27_0_2 && (t11_0_3 == t27_0_3 && true)))) fun t54 => some t54) else (some false)).bind fun q48 => (if q48 = true then (nm (t15_0_0 == t31_0_0 && (t15_0_1 == t31_0_1 && (t15_0_2 == t31_0_2 && (t15_0_3 == t31_0_3 && true)))) fun t64 => some t64) else (some false)).bind fun q58 => (if q58 = true then ((law21_num.f t3_1).bind fun t74 => some (t74 == t19_1)) else (some false)).bind fun q68 => (if q68 = true then ((law21_num.f t7_1).bind fun t84 => some (t84 == t23_1)) else (some false)).bind fun q78 => (if q78 = true then ((law21_num.f t11_1).bind fun t94 => some (t94 == t27_1)) else (some false)).bind fun q88 => (if q88 = true then ((law21_num.f t15_1).bind fun t104 => some (t104 == t31_1)) else (some false)).bind fun q98 => (if q98 = true then ((law21_known.f).bind fun t114 => some t114) else (some false)).bind fun q108 => some q108
set_option maxRecDepth 20000 in
theorem law21_PolicyChildren.ok {a0_0 : Int} {a0_1 : Int} {a0_2 : Int} {a0_3 : Int} {a1_0 : Int} {a1_1 : Int} {a1_2 : Int} {a1_3 : Int} {a2 : Int} {a3 : Int} {a4 : Int} {r : Bool} (h : law21_PolicyChildren.f a0_0 a0_1 a0_2 a0_3 a1_0 a1_1 a1_2 a1_3 a2 a3 a4 = some r) (w : World) : Calls Try.prog 3 #[.agg #[.int .i64 a0_0, .int .i64 a0_1, .int .i64 a0_2, .int .i64 a0_3], .agg #[.int .i64 a1_0, .int .i64 a1_1, .int .i64 a1_2, .int .i64 a1_3], .int .i64 a2, .int .i64 a3, .int .i64 a4] w (Post (fun u => u = .bool r) w) := by
  unfold law21_PolicyChildren.f at h
  refine calls_of_TT (N := 126) (S := [(0, .agg #[.int .i64 a0_0, .int .i64 a0_1, .int .i64 a0_2, .int .i64 a0_3]), (1, .agg #[.int .i64 a1_0, .int .i64 a1_1, .int .i64 a1_2, .int .i64 a1_3]), (2, .int .i64 a2), (3, .int .i64 a3), (4, .int .i64 a4)]) (c := B3) Try.func3 rfl rfl rfl (by simp) ?_
  show TT _ _ _ _ _ _ [.code (sub [] B3)] _ _
  refine TT.seq (x := sub [0] B3) (y := sub [1] B3) ?_
  refine TT.region (id := 0) (n := 3) (ops := (opsOf (sub [0] B3))) [(.alloc, none), (.alloc, none), (.pure, none)] rfl ?_
  show DL _ _ _ _ _ _ _ _ _ _ [0, 1, 2] _ _
  refine DL.new (ob := .cells (#[.int .i64 a0_0, .int .i64 a0_1, .int .i64 a0_2, .int .i64 a0_3]) 26) (mk := fun b => ptr b 0) (i := 0) rfl (Wn.none rfl) rfl rfl rfl (f_box (v := .agg #[.int .i64 a0_0, .int .i64 a0_1, .int .i64 a0_2, .int .i64 a0_3]) rfl rfl) ?_
  intro b1 hb1
  refine DL.new (ob := .cells (#[.int .i64 a1_0, .int .i64 a1_1, .int .i64 a1_2, .int .i64 a1_3]) 26) (mk := fun b => ptr b 0) (i := 1) rfl (Wn.none rfl) rfl rfl rfl (f_box (v := .agg #[.int .i64 a1_0, .int .i64 a1_1, .int .i64 a1_2, .int .i64 a1_3]) rfl rfl) ?_
  intro b2 hb2
  refine DL.pu 10 (.bool false) rfl (p_assign rfl rfl) ?_
  refine DL.nil ?_
  refine TT.seq (x := sub [1, 0] B3) (y := sub [1, 1] B3) ?_
  refine TT.region (id := 1) (n := 10) (ops := (opsOf (sub [1, 0] B3))) [(.pure, none), (.pure, none), (.pure, none), (.quiet, none), (.pure, none), (.pure, none), (.pure, none), (.alloc, none), (.store, none), (.pure, none)] rfl ?_
  show DL _ _ _ _ _ _ _ _ _ _ [0, 1, 2, 3, 4, 5, 6, 7, 8, 9] _ _
  refine DL.pu 28 (.int .i64 a2) rfl (p_move rfl rfl) ?_
  refine DL.pu 29 (.int .i64 a3) rfl (p_move rfl rfl) ?_
  refine DL.pu 30 (.int .i64 a4) rfl (p_move rfl rfl) ?_
  obtain ⟨⟨t3_0_0, t3_0_1, t3_0_2, t3_0_3, t3_1⟩, h4, h5⟩ := bind_some h
  refine DL.qu 31 (.tuple #[.agg #[.int .i64 t3_0_0, .int .i64 t3_0_1, .int .i64 t3_0_2, .int .i64 t3_0_3], .int .i64 t3_1]) rfl (f_call rfl rfl (args_val (vs := [.int .i64 a2, .int .i64 a3, .int .i64 a4]) rfl) (fun w => enter7 _ w) (fun w => policy_New.val h4 w)) ?_
  refine DL.pu 27 (.tuple #[.agg #[.int .i64 t3_0_0, .int .i64 t3_0_1, .int .i64 t3_0_2, .int .i64 t3_0_3], .int .i64 t3_1]) rfl (p_move rfl rfl) ?_
  refine DL.pu 32 (.agg #[.int .i64 t3_0_0, .int .i64 t3_0_1, .int .i64 t3_0_2, .int .i64 t3_0_3]) rfl (p_extract rfl rfl rfl) ?_
  refine DL.pu 33 (.int .i64 t3_1) rfl (p_extract rfl rfl rfl) ?_
  refine DL.new (ob := .cells (#[.int .i64 0, .int .i64 0, .int .i64 0, .int .i64 0]) 26) (mk := fun b => ptr b 0) (i := 7) rfl (Wn.none rfl) rfl rfl rfl (f_alloc ty_z26 rfl) ?_
  intro b6 hb6
  refine DL.put (H' := [(some b6, .cells (#[.int .i64 t3_0_0, .int .i64 t3_0_1, .int .i64 t3_0_2, .int .i64 t3_0_3]) 26 (0, 0)), (some b2, .cells (#[.int .i64 a1_0, .int .i64 a1_1, .int .i64 a1_2, .int .i64 a1_3]) 26 (0, 0)), (some b1, .cells (#[.int .i64 a0_0, .int .i64 a0_1, .int .i64 a0_2, .int .i64 a0_3]) 26 (0, 0))]) (i := 8) rfl (Wn.none rfl) rfl rfl (f_storeA (j := 0) ty_s26 rfl rfl rfl (by simp [OneCell]) rfl rfl rfl) (keep_none rfl) ?_
  refine DL.pu 12 (.int .i64 t3_1) rfl (p_assign rfl rfl) ?_
  refine DL.nil ?_
  refine TT.seq (x := sub [1, 1, 0] B3) (y := sub [1, 1, 1] B3) ?_
  refine TT.region (id := 2) (n := 10) (ops := (opsOf (sub [1, 1, 0] B3))) [(.quiet, none), (.pure, none), (.pure, none), (.quiet, none), (.pure, none), (.pure, none), (.pure, none), (.alloc, none), (.store, none), (.pure, none)] rfl ?_
  show DL _ _ _ _ _ _ _ _ _ _ [0, 1, 2, 3, 4, 5, 6, 7, 8, 9] _ _
  refine DL.qu 35 (.agg #[.int .i64 a0_0, .int .i64 a0_1, .int .i64 a0_2, .int .i64 a0_3]) rfl (f_loadA (j := 2) ty_a26 ty_s26 rfl rfl rfl rfl) ?_
  refine DL.pu 36 (.int .i64 a3) rfl (p_move rfl rfl) ?_
  refine DL.pu 37 (.int .i64 a4) rfl (p_move rfl rfl) ?_
  obtain ⟨⟨t7_0_0, t7_0_1, t7_0_2, t7_0_3, t7_1⟩, h8, h9⟩ := bind_some h5
  refine DL.qu 38 (.tuple #[.agg #[.int .i64 t7_0_0, .int .i64 t7_0_1, .int .i64 t7_0_2, .int .i64 t7_0_3], .int .i64 t7_1]) rfl (f_call rfl rfl (args_val (vs := [.agg #[.int .i64 a0_0, .int .i64 a0_1, .int .i64 a0_2, .int .i64 a0_3], .int .i64 a3, .int .i64 a4]) rfl) (fun w => enter8 _ w) (fun w => policy_Derived.val h8 w)) ?_
  refine DL.pu 34 (.tuple #[.agg #[.int .i64 t7_0_0, .int .i64 t7_0_1, .int .i64 t7_0_2, .int .i64 t7_0_3], .int .i64 t7_1]) rfl (p_move rfl rfl) ?_
  refine DL.pu 39 (.agg #[.int .i64 t7_0_0, .int .i64 t7_0_1, .int .i64 t7_0_2, .int .i64 t7_0_3]) rfl (p_extract rfl rfl rfl) ?_
  refine DL.pu 40 (.int .i64 t7_1) rfl (p_extract rfl rfl rfl) ?_
  refine DL.new (ob := .cells (#[.int .i64 0, .int .i64 0, .int .i64 0, .int .i64 0]) 26) (mk := fun b => ptr b 0) (i := 7) rfl (Wn.none rfl) rfl rfl rfl (f_alloc ty_z26 rfl) ?_
  intro b10 hb10
  refine DL.put (H' := [(some b10, .cells (#[.int .i64 t7_0_0, .int .i64 t7_0_1, .int .i64 t7_0_2, .int .i64 t7_0_3]) 26 (0, 0)), (some b6, .cells (#[.int .i64 t3_0_0, .int .i64 t3_0_1, .int .i64 t3_0_2, .int .i64 t3_0_3]) 26 (0, 0)), (some b2, .cells (#[.int .i64 a1_0, .int .i64 a1_1, .int .i64 a1_2, .int .i64 a1_3]) 26 (0, 0)), (some b1, .cells (#[.int .i64 a0_0, .int .i64 a0_1, .int .i64 a0_2, .int .i64 a0_3]) 26 (0, 0))]) (i := 8) rfl (Wn.none rfl) rfl rfl (f_storeA (j := 0) ty_s26 rfl rfl rfl (by simp [OneCell]) rfl rfl rfl) (keep_none rfl) ?_
  refine DL.pu 14 (.int .i64 t7_1) rfl (p_assign rfl rfl) ?_
  refine DL.nil ?_
  refine TT.seq (x := sub [1, 1, 1, 0] B3) (y := sub [1, 1, 1, 1] B3) ?_
  refine TT.region (id := 3) (n := 10) (ops := (opsOf (sub [1, 1, 1, 0] B3))) [(.quiet, none), (.quiet, none), (.pure, none), (.quiet, none), (.pure, none), (.pure, none), (.pure, none), (.alloc, none), (.store, none), (.pure, none)] rfl ?_
  show DL _ _ _ _ _ _ _ _ _ _ [0, 1, 2, 3, 4, 5, 6, 7, 8, 9] _ _
  refine DL.qu 42 (.agg #[.int .i64 a0_0, .int .i64 a0_1, .int .i64 a0_2, .int .i64 a0_3]) rfl (f_loadA (j := 3) ty_a26 ty_s26 rfl rfl rfl rfl) ?_
  refine DL.qu 43 (.agg #[.int .i64 a1_0, .int .i64 a1_1, .int .i64 a1_2, .int .i64 a1_3]) rfl (f_loadA (j := 2) ty_a26 ty_s26 rfl rfl rfl rfl) ?_
  refine DL.pu 44 (.int .i64 a4) rfl (p_move rfl rfl) ?_
  obtain ⟨⟨t11_0_0, t11_0_1, t11_0_2, t11_0_3, t11_1⟩, h12, h13⟩ := bind_some h9
  refine DL.qu 45 (.tuple #[.agg #[.int .i64 t11_0_0, .int .i64 t11_0_1, .int .i64 t11_0_2, .int .i64 t11_0_3], .int .i64 t11_1]) rfl (f_call rfl rfl (args_val (vs := [.agg #[.int .i64 a0_0, .int .i64 a0_1, .int .i64 a0_2, .int .i64 a0_3], .agg #[.int .i64 a1_0, .int .i64 a1_1, .int .i64 a1_2, .int .i64 a1_3], .int .i64 a4]) rfl) (fun w => enter9 _ w) (fun w => policy_Unwrapped.val h12 w)) ?_
  refine DL.pu 41 (.tuple #[.agg #[.int .i64 t11_0_0, .int .i64 t11_0_1, .int .i64 t11_0_2, .int .i64 t11_0_3], .int .i64 t11_1]) rfl (p_move rfl rfl) ?_
  refine DL.pu 46 (.agg #[.int .i64 t11_0_0, .int .i64 t11_0_1, .int .i64 t11_0_2, .int .i64 t11_0_3]) rfl (p_extract rfl rfl rfl) ?_
  refine DL.pu 47 (.int .i64 t11_1) rfl (p_extract rfl rfl rfl) ?_
  refine DL.new (ob := .cells (#[.int .i64 0, .int .i64 0, .int .i64 0, .int .i64 0]) 26) (mk := fun b => ptr b 0) (i := 7) rfl (Wn.none rfl) rfl rfl rfl (f_alloc ty_z26 rfl) ?_
  intro b14 hb14
  refine DL.put (H' := [(some b14, .cells (#[.int .i64 t11_0_0, .int .i64 t11_0_1, .int .i64 t11_0_2, .int .i64 t11_0_3]) 26 (0, 0)), (some b10, .cells (#[.int .i64 t7_0_0, .int .i64 t7_0_1, .int .i64 t7_0_2, .int .i64 t7_0_3]) 26 (0, 0)), (some b6, .cells (#[.int .i64 t3_0_0, .int .i64 t3_0_1, .int .i64 t3_0_2, .int .i64 t3_0_3]) 26 (0, 0)), (some b2, .cells (#[.int .i64 a1_0, .int .i64 a1_1, .int .i64 a1_2, .int .i64 a1_3]) 26 (0, 0)), (some b1, .cells (#[.int .i64 a0_0, .int .i64 a0_1, .int .i64 a0_2, .int .i64 a0_3]) 26 (0, 0))]) (i := 8) rfl (Wn.none rfl) rfl rfl (f_storeA (j := 0) ty_s26 rfl rfl rfl (by simp [OneCell]) rfl rfl rfl) (keep_none rfl) ?_
  refine DL.pu 16 (.int .i64 t11_1) rfl (p_assign rfl rfl) ?_
  refine DL.nil ?_
  refine TT.seq (x := sub [1, 1, 1, 1, 0] B3) (y := sub [1, 1, 1, 1, 1] B3) ?_
  refine TT.region (id := 4) (n := 9) (ops := (opsOf (sub [1, 1, 1, 1, 0] B3))) [(.quiet, none), (.pure, none), (.quiet, none), (.pure, none), (.pure, none), (.pure, none), (.alloc, none), (.store, none), (.pure, none)] rfl ?_
  show DL _ _ _ _ _ _ _ _ _ _ [0, 1, 2, 3, 4, 5, 6, 7, 8] _ _
  refine DL.qu 49 (.agg #[.int .i64 a0_0, .int .i64 a0_1, .int .i64 a0_2, .int .i64 a0_3]) rfl (f_loadA (j := 4) ty_a26 ty_s26 rfl rfl rfl rfl) ?_
  refine DL.pu 50 (.int .i64 a4) rfl (p_move rfl rfl) ?_
  obtain ⟨⟨t15_0_0, t15_0_1, t15_0_2, t15_0_3, t15_1⟩, h16, h17⟩ := bind_some h13
  refine DL.qu 51 (.tuple #[.agg #[.int .i64 t15_0_0, .int .i64 t15_0_1, .int .i64 t15_0_2, .int .i64 t15_0_3], .int .i64 t15_1]) rfl (f_call rfl rfl (args_val (vs := [.agg #[.int .i64 a0_0, .int .i64 a0_1, .int .i64 a0_2, .int .i64 a0_3], .int .i64 a4]) rfl) (fun w => enter10 _ w) (fun w => policy_Lower.val h16 w)) ?_
  refine DL.pu 48 (.tuple #[.agg #[.int .i64 t15_0_0, .int .i64 t15_0_1, .int .i64 t15_0_2, .int .i64 t15_0_3], .int .i64 t15_1]) rfl (p_move rfl rfl) ?_
  refine DL.pu 52 (.agg #[.int .i64 t15_0_0, .int .i64 t15_0_1, .int .i64 t15_0_2, .int .i64 t15_0_3]) rfl (p_extract rfl rfl rfl) ?_
  refine DL.pu 53 (.int .i64 t15_1) rfl (p_extract rfl rfl rfl) ?_
  refine DL.new (ob := .cells (#[.int .i64 0, .int .i64 0, .int .i64 0, .int .i64 0]) 26) (mk := fun b => ptr b 0) (i := 6) rfl (Wn.none rfl) rfl rfl rfl (f_alloc ty_z26 rfl) ?_
  intro b18 hb18
  refine DL.put (H' := [(some b18, .cells (#[.int .i64 t15_0_0, .int .i64 t15_0_1, .int .i64 t15_0_2, .int .i64 t15_0_3]) 26 (0, 0)), (some b14, .cells (#[.int .i64 t11_0_0, .int .i64 t11_0_1, .int .i64 t11_0_2, .int .i64 t11_0_3]) 26 (0, 0)), (some b10, .cells (#[.int .i64 t7_0_0, .int .i64 t7_0_1, .int .i64 t7_0_2, .int .i64 t7_0_3]) 26 (0, 0)), (some b6, .cells (#[.int .i64 t3_0_0, .int .i64 t3_0_1, .int .i64 t3_0_2, .int .i64 t3_0_3]) 26 (0, 0)), (some b2, .cells (#[.int .i64 a1_0, .int .i64 a1_1, .int .i64 a1_2, .int .i64 a1_3]) 26 (0, 0)), (some b1, .cells (#[.int .i64 a0_0, .int .i64 a0_1, .int .i64 a0_2, .int .i64 a0_3]) 26 (0, 0))]) (i := 7) rfl (Wn.none rfl) rfl rfl (f_storeA (j := 0) ty_s26 rfl rfl rfl (by simp [OneCell]) rfl rfl rfl) (keep_none rfl) ?_
  refine DL.pu 18 (.int .i64 t15_1) rfl (p_assign rfl rfl) ?_
  refine DL.nil ?_
  refine TT.seq (x := sub [1, 1, 1, 1, 1, 0] B3) (y := sub [1, 1, 1, 1, 1, 1] B3) ?_
  refine TT.region (id := 5) (n := 10) (ops := (opsOf (sub [1, 1, 1, 1, 1, 0] B3))) [(.pure, none), (.pure, none), (.pure, none), (.quiet, none), (.pure, none), (.pure, none), (.pure, none), (.alloc, none), (.store, none), (.pure, none)] rfl ?_
  show DL _ _ _ _ _ _ _ _ _ _ [0, 1, 2, 3, 4, 5, 6, 7, 8, 9] _ _
  refine DL.pu 55 (.int .i64 a2) rfl (p_move rfl rfl) ?_
  refine DL.pu 56 (.int .i64 a3) rfl (p_move rfl rfl) ?_
  refine DL.pu 57 (.int .i64 a4) rfl (p_move rfl rfl) ?_
  obtain ⟨⟨t19_0_0, t19_0_1, t19_0_2, t19_0_3, t19_1⟩, h20, h21⟩ := bind_some h17
  refine DL.qu 58 (.tuple #[.agg #[.int .i64 t19_0_0, .int .i64 t19_0_1, .int .i64 t19_0_2, .int .i64 t19_0_3], .int .i64 t19_1]) rfl (f_call rfl rfl (args_val (vs := [.int .i64 a2, .int .i64 a3, .int .i64 a4]) rfl) (fun w => enter11 _ w) (fun w => ref21_New.val h20 w)) ?_
  refine DL.pu 54 (.tuple #[.agg #[.int .i64 t19_0_0, .int .i64 t19_0_1, .int .i64 t19_0_2, .int .i64 t19_0_3], .int .i64 t19_1]) rfl (p_move rfl rfl) ?_
  refine DL.pu 59 (.agg #[.int .i64 t19_0_0, .int .i64 t19_0_1, .int .i64 t19_0_2, .int .i64 t19_0_3]) rfl (p_extract rfl rfl rfl) ?_
  refine DL.pu 60 (.int .i64 t19_1) rfl (p_extract rfl rfl rfl) ?_
  refine DL.new (ob := .cells (#[.int .i64 0, .int .i64 0, .int .i64 0, .int .i64 0]) 26) (mk := fun b => ptr b 0) (i := 7) rfl (Wn.none rfl) rfl rfl rfl (f_alloc ty_z26 rfl) ?_
  intro b22 hb22
  refine DL.put (H' := [(some b22, .cells (#[.int .i64 t19_0_0, .int .i64 t19_0_1, .int .i64 t19_0_2, .int .i64 t19_0_3]) 26 (0, 0)), (some b18, .cells (#[.int .i64 t15_0_0, .int .i64 t15_0_1, .int .i64 t15_0_2, .int .i64 t15_0_3]) 26 (0, 0)), (some b14, .cells (#[.int .i64 t11_0_0, .int .i64 t11_0_1, .int .i64 t11_0_2, .int .i64 t11_0_3]) 26 (0, 0)), (some b10, .cells (#[.int .i64 t7_0_0, .int .i64 t7_0_1, .int .i64 t7_0_2, .int .i64 t7_0_3]) 26 (0, 0)), (some b6, .cells (#[.int .i64 t3_0_0, .int .i64 t3_0_1, .int .i64 t3_0_2, .int .i64 t3_0_3]) 26 (0, 0)), (some b2, .cells (#[.int .i64 a1_0, .int .i64 a1_1, .int .i64 a1_2, .int .i64 a1_3]) 26 (0, 0)), (some b1, .cells (#[.int .i64 a0_0, .int .i64 a0_1, .int .i64 a0_2, .int .i64 a0_3]) 26 (0, 0))]) (i := 8) rfl (Wn.none rfl) rfl rfl (f_storeA (j := 0) ty_s26 rfl rfl rfl (by simp [OneCell]) rfl rfl rfl) (keep_none rfl) ?_
  refine DL.pu 20 (.int .i64 t19_1) rfl (p_assign rfl rfl) ?_
  refine DL.nil ?_
  refine TT.seq (x := sub [1, 1, 1, 1, 1, 1, 0] B3) (y := sub [1, 1, 1, 1, 1, 1, 1] B3) ?_
  refine TT.region (id := 6) (n := 10) (ops := (opsOf (sub [1, 1, 1, 1, 1, 1, 0] B3))) [(.quiet, none), (.pure, none), (.pure, none), (.quiet, none), (.pure, none), (.pure, none), (.pure, none), (.alloc, none), (.store, none), (.pure, none)] rfl ?_
  show DL _ _ _ _ _ _ _ _ _ _ [0, 1, 2, 3, 4, 5, 6, 7, 8, 9] _ _
  refine DL.qu 62 (.agg #[.int .i64 a0_0, .int .i64 a0_1, .int .i64 a0_2, .int .i64 a0_3]) rfl (f_loadA (j := 6) ty_a26 ty_s26 rfl rfl rfl rfl) ?_
  refine DL.pu 63 (.int .i64 a3) rfl (p_move rfl rfl) ?_
  refine DL.pu 64 (.int .i64 a4) rfl (p_move rfl rfl) ?_
  obtain ⟨⟨t23_0_0, t23_0_1, t23_0_2, t23_0_3, t23_1⟩, h24, h25⟩ := bind_some h21
  refine DL.qu 65 (.tuple #[.agg #[.int .i64 t23_0_0, .int .i64 t23_0_1, .int .i64 t23_0_2, .int .i64 t23_0_3], .int .i64 t23_1]) rfl (f_call rfl rfl (args_val (vs := [.agg #[.int .i64 a0_0, .int .i64 a0_1, .int .i64 a0_2, .int .i64 a0_3], .int .i64 a3, .int .i64 a4]) rfl) (fun w => enter12 _ w) (fun w => ref21_Derived.val h24 w)) ?_
  refine DL.pu 61 (.tuple #[.agg #[.int .i64 t23_0_0, .int .i64 t23_0_1, .int .i64 t23_0_2, .int .i64 t23_0_3], .int .i64 t23_1]) rfl (p_move rfl rfl) ?_
  refine DL.pu 66 (.agg #[.int .i64 t23_0_0, .int .i64 t23_0_1, .int .i64 t23_0_2, .int .i64 t23_0_3]) rfl (p_extract rfl rfl rfl) ?_
  refine DL.pu 67 (.int .i64 t23_1) rfl (p_extract rfl rfl rfl) ?_
  refine DL.new (ob := .cells (#[.int .i64 0, .int .i64 0, .int .i64 0, .int .i64 0]) 26) (mk := fun b => ptr b 0) (i := 7) rfl (Wn.none rfl) rfl rfl rfl (f_alloc ty_z26 rfl) ?_
  intro b26 hb26
  refine DL.put (H' := [(some b26, .cells (#[.int .i64 t23_0_0, .int .i64 t23_0_1, .int .i64 t23_0_2, .int .i64 t23_0_3]) 26 (0, 0)), (some b22, .cells (#[.int .i64 t19_0_0, .int .i64 t19_0_1, .int .i64 t19_0_2, .int .i64 t19_0_3]) 26 (0, 0)), (some b18, .cells (#[.int .i64 t15_0_0, .int .i64 t15_0_1, .int .i64 t15_0_2, .int .i64 t15_0_3]) 26 (0, 0)), (some b14, .cells (#[.int .i64 t11_0_0, .int .i64 t11_0_1, .int .i64 t11_0_2, .int .i64 t11_0_3]) 26 (0, 0)), (some b10, .cells (#[.int .i64 t7_0_0, .int .i64 t7_0_1, .int .i64 t7_0_2, .int .i64 t7_0_3]) 26 (0, 0)), (some b6, .cells (#[.int .i64 t3_0_0, .int .i64 t3_0_1, .int .i64 t3_0_2, .int .i64 t3_0_3]) 26 (0, 0)), (some b2, .cells (#[.int .i64 a1_0, .int .i64 a1_1, .int .i64 a1_2, .int .i64 a1_3]) 26 (0, 0)), (some b1, .cells (#[.int .i64 a0_0, .int .i64 a0_1, .int .i64 a0_2, .int .i64 a0_3]) 26 (0, 0))]) (i := 8) rfl (Wn.none rfl) rfl rfl (f_storeA (j := 0) ty_s26 rfl rfl rfl (by simp [OneCell]) rfl rfl rfl) (keep_none rfl) ?_
  refine DL.pu 22 (.int .i64 t23_1) rfl (p_assign rfl rfl) ?_
  refine DL.nil ?_
  refine TT.seq (x := sub [1, 1, 1, 1, 1, 1, 1, 0] B3) (y := sub [1, 1, 1, 1, 1, 1, 1, 1] B3) ?_
  refine TT.region (id := 7) (n := 10) (ops := (opsOf (sub [1, 1, 1, 1, 1, 1, 1, 0] B3))) [(.quiet, none), (.quiet, none), (.pure, none), (.quiet, none), (.pure, none), (.pure, none), (.pure, none), (.alloc, none), (.store, none), (.pure, none)] rfl ?_
  show DL _ _ _ _ _ _ _ _ _ _ [0, 1, 2, 3, 4, 5, 6, 7, 8, 9] _ _
  refine DL.qu 69 (.agg #[.int .i64 a0_0, .int .i64 a0_1, .int .i64 a0_2, .int .i64 a0_3]) rfl (f_loadA (j := 7) ty_a26 ty_s26 rfl rfl rfl rfl) ?_
  refine DL.qu 70 (.agg #[.int .i64 a1_0, .int .i64 a1_1, .int .i64 a1_2, .int .i64 a1_3]) rfl (f_loadA (j := 6) ty_a26 ty_s26 rfl rfl rfl rfl) ?_
  refine DL.pu 71 (.int .i64 a4) rfl (p_move rfl rfl) ?_
  obtain ⟨⟨t27_0_0, t27_0_1, t27_0_2, t27_0_3, t27_1⟩, h28, h29⟩ := bind_some h25
  refine DL.qu 72 (.tuple #[.agg #[.int .i64 t27_0_0, .int .i64 t27_0_1, .int .i64 t27_0_2, .int .i64 t27_0_3], .int .i64 t27_1]) rfl (f_call rfl rfl (args_val (vs := [.agg #[.int .i64 a0_0, .int .i64 a0_1, .int .i64 a0_2, .int .i64 a0_3], .agg #[.int .i64 a1_0, .int .i64 a1_1, .int .i64 a1_2, .int .i64 a1_3], .int .i64 a4]) rfl) (fun w => enter13 _ w) (fun w => ref21_Unwrapped.val h28 w)) ?_
  refine DL.pu 68 (.tuple #[.agg #[.int .i64 t27_0_0, .int .i64 t27_0_1, .int .i64 t27_0_2, .int .i64 t27_0_3], .int .i64 t27_1]) rfl (p_move rfl rfl) ?_
  refine DL.pu 73 (.agg #[.int .i64 t27_0_0, .int .i64 t27_0_1, .int .i64 t27_0_2, .int .i64 t27_0_3]) rfl (p_extract rfl rfl rfl) ?_
  refine DL.pu 74 (.int .i64 t27_1) rfl (p_extract rfl rfl rfl) ?_
  refine DL.new (ob := .cells (#[.int .i64 0, .int .i64 0, .int .i64 0, .int .i64 0]) 26) (mk := fun b => ptr b 0) (i := 7) rfl (Wn.none rfl) rfl rfl rfl (f_alloc ty_z26 rfl) ?_
  intro b30 hb30
  refine DL.put (H' := [(some b30, .cells (#[.int .i64 t27_0_0, .int .i64 t27_0_1, .int .i64 t27_0_2, .int .i64 t27_0_3]) 26 (0, 0)), (some b26, .cells (#[.int .i64 t23_0_0, .int .i64 t23_0_1, .int .i64 t23_0_2, .int .i64 t23_0_3]) 26 (0, 0)), (some b22, .cells (#[.int .i64 t19_0_0, .int .i64 t19_0_1, .int .i64 t19_0_2, .int .i64 t19_0_3]) 26 (0, 0)), (some b18, .cells (#[.int .i64 t15_0_0, .int .i64 t15_0_1, .int .i64 t15_0_2, .int .i64 t15_0_3]) 26 (0, 0)), (some b14, .cells (#[.int .i64 t11_0_0, .int .i64 t11_0_1, .int .i64 t11_0_2, .int .i64 t11_0_3]) 26 (0, 0)), (some b10, .cells (#[.int .i64 t7_0_0, .int .i64 t7_0_1, .int .i64 t7_0_2, .int .i64 t7_0_3]) 26 (0, 0)), (some b6, .cells (#[.int .i64 t3_0_0, .int .i64 t3_0_1, .int .i64 t3_0_2, .int .i64 t3_0_3]) 26 (0, 0)), (some b2, .cells (#[.int .i64 a1_0, .int .i64 a1_1, .int .i64 a1_2, .int .i64 a1_3]) 26 (0, 0)), (some b1, .cells (#[.int .i64 a0_0, .int .i64 a0_1, .int .i64 a0_2, .int .i64 a0_3]) 26 (0, 0))]) (i := 8) rfl (Wn.none rfl) rfl rfl (f_storeA (j := 0) ty_s26 rfl rfl rfl (by simp [OneCell]) rfl rfl rfl) (keep_none rfl) ?_
  refine DL.pu 24 (.int .i64 t27_1) rfl (p_assign rfl rfl) ?_
  refine DL.nil ?_
  refine TT.seq (x := sub [1, 1, 1, 1, 1, 1, 1, 1, 0] B3) (y := sub [1, 1, 1, 1, 1, 1, 1, 1, 1] B3) ?_
  refine TT.region (id := 8) (n := 9) (ops := (opsOf (sub [1, 1, 1, 1, 1, 1, 1, 1, 0] B3))) [(.quiet, none), (.pure, none), (.quiet, none), (.pure, none), (.pure, none), (.pure, none), (.alloc, none), (.store, none), (.pure, none)] rfl ?_
  show DL _ _ _ _ _ _ _ _ _ _ [0, 1, 2, 3, 4, 5, 6, 7, 8] _ _
  refine DL.qu 76 (.agg #[.int .i64 a0_0, .int .i64 a0_1, .int .i64 a0_2, .int .i64 a0_3]) rfl (f_loadA (j := 8) ty_a26 ty_s26 rfl rfl rfl rfl) ?_
  refine DL.pu 77 (.int .i64 a4) rfl (p_move rfl rfl) ?_
  obtain ⟨⟨t31_0_0, t31_0_1, t31_0_2, t31_0_3, t31_1⟩, h32, h33⟩ := bind_some h29
  refine DL.qu 78 (.tuple #[.agg #[.int .i64 t31_0_0, .int .i64 t31_0_1, .int .i64 t31_0_2, .int .i64 t31_0_3], .int .i64 t31_1]) rfl (f_call rfl rfl (args_val (vs := [.agg #[.int .i64 a0_0, .int .i64 a0_1, .int .i64 a0_2, .int .i64 a0_3], .int .i64 a4]) rfl) (fun w => enter14 _ w) (fun w => ref21_Lower.val h32 w)) ?_
  refine DL.pu 75 (.tuple #[.agg #[.int .i64 t31_0_0, .int .i64 t31_0_1, .int .i64 t31_0_2, .int .i64 t31_0_3], .int .i64 t31_1]) rfl (p_move rfl rfl) ?_
  refine DL.pu 79 (.agg #[.int .i64 t31_0_0, .int .i64 t31_0_1, .int .i64 t31_0_2, .int .i64 t31_0_3]) rfl (p_extract rfl rfl rfl) ?_
  refine DL.pu 80 (.int .i64 t31_1) rfl (p_extract rfl rfl rfl) ?_
  refine DL.new (ob := .cells (#[.int .i64 0, .int .i64 0, .int .i64 0, .int .i64 0]) 26) (mk := fun b => ptr b 0) (i := 6) rfl (Wn.none rfl) rfl rfl rfl (f_alloc ty_z26 rfl) ?_
  intro b34 hb34
  refine DL.put (H' := [(some b34, .cells (#[.int .i64 t31_0_0, .int .i64 t31_0_1, .int .i64 t31_0_2, .int .i64 t31_0_3]) 26 (0, 0)), (some b30, .cells (#[.int .i64 t27_0_0, .int .i64 t27_0_1, .int .i64 t27_0_2, .int .i64 t27_0_3]) 26 (0, 0)), (some b26, .cells (#[.int .i64 t23_0_0, .int .i64 t23_0_1, .int .i64 t23_0_2, .int .i64 t23_0_3]) 26 (0, 0)), (some b22, .cells (#[.int .i64 t19_0_0, .int .i64 t19_0_1, .int .i64 t19_0_2, .int .i64 t19_0_3]) 26 (0, 0)), (some b18, .cells (#[.int .i64 t15_0_0, .int .i64 t15_0_1, .int .i64 t15_0_2, .int .i64 t15_0_3]) 26 (0, 0)), (some b14, .cells (#[.int .i64 t11_0_0, .int .i64 t11_0_1, .int .i64 t11_0_2, .int .i64 t11_0_3]) 26 (0, 0)), (some b10, .cells (#[.int .i64 t7_0_0, .int .i64 t7_0_1, .int .i64 t7_0_2, .int .i64 t7_0_3]) 26 (0, 0)), (some b6, .cells (#[.int .i64 t3_0_0, .int .i64 t3_0_1, .int .i64 t3_0_2, .int .i64 t3_0_3]) 26 (0, 0)), (some b2, .cells (#[.int .i64 a1_0, .int .i64 a1_1, .int .i64 a1_2, .int .i64 a1_3]) 26 (0, 0)), (some b1, .cells (#[.int .i64 a0_0, .int .i64 a0_1, .int .i64 a0_2, .int .i64 a0_3]) 26 (0, 0))]) (i := 7) rfl (Wn.none rfl) rfl rfl (f_storeA (j := 0) ty_s26 rfl rfl rfl (by simp [OneCell]) rfl rfl rfl) (keep_none rfl) ?_
  refine DL.pu 26 (.int .i64 t31_1) rfl (p_assign rfl rfl) ?_
  refine DL.nil ?_
  refine TT.seq (x := sub [1, 1, 1, 1, 1, 1, 1, 1, 1, 0] B3) (y := sub [1, 1, 1, 1, 1, 1, 1, 1, 1, 1] B3) ?_
  refine TT.region (id := 9) (n := 46) (ops := (opsOf (sub [1, 1, 1, 1, 1, 1, 1, 1, 1, 0] B3))) [(.quiet, none), (.quiet, none), (.pure, none), (.pure, none), (.quiet, none), (.quiet, none), (.pure, none), (.pure, none), (.pure, none), (.quiet, none), (.quiet, none), (.pure, none), (.pure, none), (.pure, none), (.quiet, none), (.quiet, none), (.pure, none), (.pure, none), (.pure, none), (.pure, none), (.quiet, none), (.pure, none), (.pure, none), (.pure, none), (.pure, none), (.pure, none), (.quiet, none), (.pure, none), (.pure, none), (.pure, none), (.pure, none), (.pure, none), (.quiet, none), (.pure, none), (.pure, none), (.pure, none), (.pure, none), (.pure, none), (.quiet, none), (.pure, none), (.pure, none), (.pure, none), (.pure, none), (.quiet, none), (.pure, none), (.pure, none)] rfl ?_
  show DL _ _ _ _ _ _ _ _ _ _ [0, 1, 2, 3, 4, 5, 6, 7, 8, 9, 10, 11, 12, 13, 14, 15, 16, 17, 18, 19, 20, 21, 22, 23, 24, 25, 26, 27, 28, 29, 30, 31, 32, 33, 34, 35, 36, 37, 38, 39, 40, 41, 42, 43, 44, 45] _ _
  refine DL.qu 81 (.agg #[.int .i64 t3_0_0, .int .i64 t3_0_1, .int .i64 t3_0_2, .int .i64 t3_0_3]) rfl (f_loadA (j := 7) ty_a26 ty_s26 rfl rfl rfl rfl) ?_
  refine DL.qu 82 (.agg #[.int .i64 t19_0_0, .int .i64 t19_0_1, .int .i64 t19_0_2, .int .i64 t19_0_3]) rfl (f_loadA (j := 3) ty_a26 ty_s26 rfl rfl rfl rfl) ?_
  obtain ⟨t35, e36, h37⟩ := nm_some h33
  refine DL.pu 83 (.bool t35) rfl (by rw [e36]; exact p_eqAgg ty_g26 (fun w => eqs26 (d := 9998) t3_0_0 t3_0_1 t3_0_2 t3_0_3 t19_0_0 t19_0_1 t19_0_2 t19_0_3 w) rfl rfl rfl) ?_
  refine DL.pu 84 (.bool t35) rfl (p_move rfl rfl) ?_
  obtain ⟨q38, h39, h40⟩ := bind_some h37
  refine DL.cut [(12, .int .i64 t3_1), (14, .int .i64 t7_1), (15, ptr b14 0), (16, .int .i64 t11_1), (17, ptr b18 0), (18, .int .i64 t15_1), (20, .int .i64 t19_1), (22, .int .i64 t23_1), (23, ptr b30 0), (24, .int .i64 t27_1), (25, ptr b34 0), (26, .int .i64 t31_1), (88, .bool q38)] [8, 9, 10, 11, 12, 13, 14, 15, 16, 17, 18, 19, 20, 21, 22, 23, 24, 25, 26, 27, 28, 29, 30, 31, 32, 33, 34, 35, 36, 37, 38, 39, 40, 41, 42, 43, 44, 45] ?_ (fun J41 => ?_)
  · refine DL.pu 89 (.bool q38) rfl (p_move rfl rfl) ?_
    obtain ⟨q48, h49, h50⟩ := bind_some h40
    refine DL.cut [(12, .int .i64 t3_1), (14, .int .i64 t7_1), (16, .int .i64 t11_1), (17, ptr b18 0), (18, .int .i64 t15_1), (20, .int .i64 t19_1), (22, .int .i64 t23_1), (24, .int .i64 t27_1), (25, ptr b34 0), (26, .int .i64 t31_1), (93, .bool q48)] [13, 14, 15, 16, 17, 18, 19, 20, 21, 22, 23, 24, 25, 26, 27, 28, 29, 30, 31, 32, 33, 34, 35, 36, 37, 38, 39, 40, 41, 42, 43, 44, 45] ?_ (fun J51 => ?_)
    · refine DL.pu 94 (.bool q48) rfl (p_move rfl rfl) ?_
      obtain ⟨q58, h59, h60⟩ := bind_some h50
      refine DL.cut [(12, .int .i64 t3_1), (14, .int .i64 t7_1), (16, .int .i64 t11_1), (18, .int .i64 t15_1), (20, .int .i64 t19_1), (22, .int .i64 t23_1), (24, .int .i64 t27_1), (26, .int .i64 t31_1), (98, .bool q58)] [18, 19, 20, 21, 22, 23, 24, 25, 26, 27, 28, 29, 30, 31, 32, 33, 34, 35, 36, 37, 38, 39, 40, 41, 42, 43, 44, 45] ?_ (fun J61 => ?_)
      · refine DL.pu 99 (.bool q58) rfl (p_move rfl rfl) ?_
        obtain ⟨q68, h69, h70⟩ := bind_some h60
        refine DL.cut [(14, .int .i64 t7_1), (16, .int .i64 t11_1), (18, .int .i64 t15_1), (22, .int .i64 t23_1), (24, .int .i64 t27_1), (26, .int .i64 t31_1), (104, .bool q68)] [24, 25, 26, 27, 28, 29, 30, 31, 32, 33, 34, 35, 36, 37, 38, 39, 40, 41, 42, 43, 44, 45] ?_ (fun J71 => ?_)
        · refine DL.pu 105 (.bool q68) rfl (p_move rfl rfl) ?_
          obtain ⟨q78, h79, h80⟩ := bind_some h70
          refine DL.cut [(16, .int .i64 t11_1), (18, .int .i64 t15_1), (24, .int .i64 t27_1), (26, .int .i64 t31_1), (110, .bool q78)] [30, 31, 32, 33, 34, 35, 36, 37, 38, 39, 40, 41, 42, 43, 44, 45] ?_ (fun J81 => ?_)
          · refine DL.pu 111 (.bool q78) rfl (p_move rfl rfl) ?_
            obtain ⟨q88, h89, h90⟩ := bind_some h80
            refine DL.cut [(18, .int .i64 t15_1), (26, .int .i64 t31_1), (116, .bool q88)] [36, 37, 38, 39, 40, 41, 42, 43, 44, 45] ?_ (fun J91 => ?_)
            · refine DL.pu 117 (.bool q88) rfl (p_move rfl rfl) ?_
              obtain ⟨q98, h99, h100⟩ := bind_some h90
              refine DL.cut [(122, .bool q98)] [42, 43, 44, 45] ?_ (fun J101 => ?_)
              · refine DL.pu 123 (.bool q98) rfl (p_move rfl rfl) ?_
                obtain ⟨q108, h109, h110⟩ := bind_some h100
                refine DL.cut [(125, .bool q108)] [45] ?_ (fun J111 => ?_)
                · refine DL.pu 10 (.bool q108) rfl (p_assign rfl rfl) ?_
                  refine DL.nil ?_
                  obtain rfl := Option.some.inj h110
                  exact ret1 Try.func3 rfl (ResV.tmp rfl) rfl
                · by_cases c112 : q98 = true
                  · have h113 := ite_true c112 h109
                    obtain ⟨t114, h115, h116⟩ := bind_some h113
                    refine DL.quiet (v := .bool t114) rfl (Wn.yes c112 rfl rfl rfl rfl) rfl rfl rfl (f_call rfl rfl (args_val (vs := []) rfl) (fun w => enter16 _ w) (fun w => law21_known.val h115 w)) ?_
                    refine DL.pu 125 (.bool t114) rfl (p_pick_t c112 rfl rfl rfl) ?_
                    obtain rfl := Option.some.inj h116
                    exact DL.weak J111 (Sub.cons rfl (Sub.nil _))
                  · replace c112 := Bool.eq_false_iff.mpr c112
                    have h117 := ite_false c112 h109
                    refine DL.not (i := 43) rfl (Wn.no c112 rfl rfl rfl rfl) rfl rfl ?_
                    refine DL.pu 125 (.bool false) rfl (p_pick_f c112 rfl rfl rfl) ?_
                    obtain rfl := Option.some.inj h117
                    exact DL.weak J111 (Sub.cons rfl (Sub.nil _))
              · by_cases c102 : q88 = true
                · have h103 := ite_true c102 h99
                  refine DL.pure (v := .int .i64 t15_1) rfl (Wn.yes c102 rfl rfl rfl rfl) rfl rfl rfl (p_move rfl rfl) ?_
                  obtain ⟨t104, h105, h106⟩ := bind_some h103
                  refine DL.quiet (v := .int .i64 t104) rfl (Wn.yes c102 rfl rfl rfl rfl) rfl rfl rfl (f_call rfl rfl (args_val (vs := [.int .i64 t15_1]) rfl) (fun w => enter15 _ w) (fun w => law21_num.val h105 w)) ?_
                  refine DL.pure (v := .int .i64 t31_1) rfl (Wn.yes c102 rfl rfl rfl rfl) rfl rfl rfl (p_move rfl rfl) ?_
                  refine DL.pure (v := .bool (t104 == t31_1)) rfl (Wn.yes c102 rfl rfl rfl rfl) rfl rfl rfl (p_eql rfl rfl rfl) ?_
                  refine DL.pu 122 (.bool (t104 == t31_1)) rfl (p_pick_t c102 rfl rfl rfl) ?_
                  obtain rfl := Option.some.inj h106
                  exact DL.weak J101 (Sub.cons rfl (Sub.nil _))
                · replace c102 := Bool.eq_false_iff.mpr c102
                  have h107 := ite_false c102 h99
                  refine DL.not (i := 37) rfl (Wn.no c102 rfl rfl rfl rfl) rfl rfl ?_
                  refine DL.not (i := 38) rfl (Wn.no c102 rfl rfl rfl rfl) rfl rfl ?_
                  refine DL.not (i := 39) rfl (Wn.no c102 rfl rfl rfl rfl) rfl rfl ?_
                  refine DL.not (i := 40) rfl (Wn.no c102 rfl rfl rfl rfl) rfl rfl ?_
                  refine DL.pu 122 (.bool false) rfl (p_pick_f c102 rfl rfl rfl) ?_
                  obtain rfl := Option.some.inj h107
                  exact DL.weak J101 (Sub.cons rfl (Sub.nil _))
            · by_cases c92 : q78 = true
              · have h93 := ite_true c92 h89
                refine DL.pure (v := .int .i64 t11_1) rfl (Wn.yes c92 rfl rfl rfl rfl) rfl rfl rfl (p_move rfl rfl) ?_
                obtain ⟨t94, h95, h96⟩ := bind_some h93
                refine DL.quiet (v := .int .i64 t94) rfl (Wn.yes c92 rfl rfl rfl rfl) rfl rfl rfl (f_call rfl rfl (args_val (vs := [.int .i64 t11_1]) rfl) (fun w => enter15 _ w) (fun w => law21_num.val h95 w)) ?_
                refine DL.pure (v := .int .i64 t27_1) rfl (Wn.yes c92 rfl rfl rfl rfl) rfl rfl rfl (p_move rfl rfl) ?_
                refine DL.pure (v := .bool (t94 == t27_1)) rfl (Wn.yes c92 rfl rfl rfl rfl) rfl rfl rfl (p_eql rfl rfl rfl) ?_
                refine DL.pu 116 (.bool (t94 == t27_1)) rfl (p_pick_t c92 rfl rfl rfl) ?_
                obtain rfl := Option.some.inj h96
                exact DL.weak J91 (Sub.cons rfl (Sub.cons rfl (Sub.cons rfl (Sub.nil _))))
              · replace c92 := Bool.eq_false_iff.mpr c92
                have h97 := ite_false c92 h89
                refine DL.not (i := 31) rfl (Wn.no c92 rfl rfl rfl rfl) rfl rfl ?_
                refine DL.not (i := 32) rfl (Wn.no c92 rfl rfl rfl rfl) rfl rfl ?_
                refine DL.not (i := 33) rfl (Wn.no c92 rfl rfl rfl rfl) rfl rfl ?_
                refine DL.not (i := 34) rfl (Wn.no c92 rfl rfl rfl rfl) rfl rfl ?_
                refine DL.pu 116 (.bool false) rfl (p_pick_f c92 rfl rfl rfl) ?_
                obtain rfl := Option.some.inj h97
                exact DL.weak J91 (Sub.cons rfl (Sub.cons rfl (Sub.cons rfl (Sub.nil _))))
          · by_cases c82 : q68 = true
            · have h83 := ite_true c82 h79
              refine DL.pure (v := .int .i64 t7_1) rfl (Wn.yes c82 rfl rfl rfl rfl) rfl rfl rfl (p_move rfl rfl) ?_
              obtain ⟨t84, h85, h86⟩ := bind_some h83
              refine DL.quiet (v := .int .i64 t84) rfl (Wn.yes c82 rfl rfl rfl rfl) rfl rfl rfl (f_call rfl rfl (args_val (vs := [.int .i64 t7_1]) rfl) (fun w => enter15 _ w) (fun w => law21_num.val h85 w)) ?_
              refine DL.pure (v := .int .i64 t23_1) rfl (Wn.yes c82 rfl rfl rfl rfl) rfl rfl rfl (p_move rfl rfl) ?_
              refine DL.pure (v := .bool (t84 == t23_1)) rfl (Wn.yes c82 rfl rfl rfl rfl) rfl rfl rfl (p_eql rfl rfl rfl) ?_
              refine DL.pu 110 (.bool (t84 == t23_1)) rfl (p_pick_t c82 rfl rfl rfl) ?_
              obtain rfl := Option.some.inj h86
              exact DL.weak J81 (Sub.cons rfl (Sub.cons rfl (Sub.cons rfl (Sub.cons rfl (Sub.cons rfl (Sub.nil _))))))
            · replace c82 := Bool.eq_false_iff.mpr c82
              have h87 := ite_false c82 h79
              refine DL.not (i := 25) rfl (Wn.no c82 rfl rfl rfl rfl) rfl rfl ?_
              refine DL.not (i := 26) rfl (Wn.no c82 rfl rfl rfl rfl) rfl rfl ?_
              refine DL.not (i := 27) rfl (Wn.no c82 rfl rfl rfl rfl) rfl rfl ?_
              refine DL.not (i := 28) rfl (Wn.no c82 rfl rfl rfl rfl) rfl rfl ?_
              refine DL.pu 110 (.bool false) rfl (p_pick_f c82 rfl rfl rfl) ?_
              obtain rfl := Option.some.inj h87
              exact DL.weak J81 (Sub.cons rfl (Sub.cons rfl (Sub.cons rfl (Sub.cons rfl (Sub.cons rfl (Sub.nil _))))))
        · by_cases c72 : q58 = true
          · have h73 := ite_true c72 h69
            refine DL.pure (v := .int .i64 t3_1) rfl (Wn.yes c72 rfl rfl rfl rfl) rfl rfl rfl (p_move rfl rfl) ?_
            obtain ⟨t74, h75, h76⟩ := bind_some h73
            refine DL.quiet (v := .int .i64 t74) rfl (Wn.yes c72 rfl rfl rfl rfl) rfl rfl rfl (f_call rfl rfl (args_val (vs := [.int .i64 t3_1]) rfl) (fun w => enter15 _ w) (fun w => law21_num.val h75 w)) ?_
            refine DL.pure (v := .int .i64 t19_1) rfl (Wn.yes c72 rfl rfl rfl rfl) rfl rfl rfl (p_move rfl rfl) ?_
            refine DL.pure (v := .bool (t74 == t19_1)) rfl (Wn.yes c72 rfl rfl rfl rfl) rfl rfl rfl (p_eql rfl rfl rfl) ?_
            refine DL.pu 104 (.bool (t74 == t19_1)) rfl (p_pick_t c72 rfl rfl rfl) ?_
            obtain rfl := Option.some.inj h76
            exact DL.weak J71 (Sub.cons rfl (Sub.cons rfl (Sub.cons rfl (Sub.cons rfl (Sub.cons rfl (Sub.cons rfl (Sub.cons rfl (Sub.nil _))))))))
          · replace c72 := Bool.eq_false_iff.mpr c72
            have h77 := ite_false c72 h69
            refine DL.not (i := 19) rfl (Wn.no c72 rfl rfl rfl rfl) rfl rfl ?_
            refine DL.not (i := 20) rfl (Wn.no c72 rfl rfl rfl rfl) rfl rfl ?_
            refine DL.not (i := 21) rfl (Wn.no c72 rfl rfl rfl rfl) rfl rfl ?_
            refine DL.not (i := 22) rfl (Wn.no c72 rfl rfl rfl rfl) rfl rfl ?_
            refine DL.pu 104 (.bool false) rfl (p_pick_f c72 rfl rfl rfl) ?_
            obtain rfl := Option.some.inj h77
            exact DL.weak J71 (Sub.cons rfl (Sub.cons rfl (Sub.cons rfl (Sub.cons rfl (Sub.cons rfl (Sub.cons rfl (Sub.cons rfl (Sub.nil _))))))))
      · by_cases c62 : q48 = true
        · have h63 := ite_true c62 h59
          refine DL.quiet (v := .agg #[.int .i64 t15_0_0, .int .i64 t15_0_1, .int .i64 t15_0_2, .int .i64 t15_0_3]) rfl (Wn.yes c62 rfl rfl rfl rfl) rfl rfl rfl (f_loadA (j := 4) ty_a26 ty_s26 rfl rfl rfl rfl) ?_
          refine DL.quiet (v := .agg #[.int .i64 t31_0_0, .int .i64 t31_0_1, .int .i64 t31_0_2, .int .i64 t31_0_3]) rfl (Wn.yes c62 rfl rfl rfl rfl) rfl rfl rfl (f_loadA (j := 0) ty_a26 ty_s26 rfl rfl rfl rfl) ?_
          obtain ⟨t64, e65, h66⟩ := nm_some h63
          refine DL.pure (v := .bool t64) rfl (Wn.yes c62 rfl rfl rfl rfl) rfl rfl rfl (by rw [e65]; exact p_eqAgg ty_g26 (fun w => eqs26 (d := 9998) t15_0_0 t15_0_1 t15_0_2 t15_0_3 t31_0_0 t31_0_1 t31_0_2 t31_0_3 w) rfl rfl rfl) ?_
          refine DL.pu 98 (.bool t64) rfl (p_pick_t c62 rfl rfl rfl) ?_
          obtain rfl := Option.some.inj h66
          exact DL.weak J61 (Sub.cons rfl (Sub.cons rfl (Sub.cons rfl (Sub.cons rfl (Sub.cons rfl (Sub.cons rfl (Sub.cons rfl (Sub.cons rfl (Sub.cons rfl (Sub.nil _))))))))))
        · replace c62 := Bool.eq_false_iff.mpr c62
          have h67 := ite_false c62 h59
          refine DL.not (i := 14) rfl (Wn.no c62 rfl rfl rfl rfl) rfl rfl ?_
          refine DL.not (i := 15) rfl (Wn.no c62 rfl rfl rfl rfl) rfl rfl ?_
          refine DL.not (i := 16) rfl (Wn.no c62 rfl rfl rfl rfl) rfl rfl ?_
          refine DL.pu 98 (.bool false) rfl (p_pick_f c62 rfl rfl rfl) ?_
          obtain rfl := Option.some.inj h67
          exact DL.weak J61 (Sub.cons rfl (Sub.cons rfl (Sub.cons rfl (Sub.cons rfl (Sub.cons rfl (Sub.cons rfl (Sub.cons rfl (Sub.cons rfl (Sub.cons rfl (Sub.nil _))))))))))
    · by_cases c52 : q38 = true
      · have h53 := ite_true c52 h49
        refine DL.quiet (v := .agg #[.int .i64 t11_0_0, .int .i64 t11_0_1, .int .i64 t11_0_2, .int .i64 t11_0_3]) rfl (Wn.yes c52 rfl rfl rfl rfl) rfl rfl rfl (f_loadA (j := 5) ty_a26 ty_s26 rfl rfl rfl rfl) ?_
        refine DL.quiet (v := .agg #[.int .i64 t27_0_0, .int .i64 t27_0_1, .int .i64 t27_0_2, .int .i64 t27_0_3]) rfl (Wn.yes c52 rfl rfl rfl rfl) rfl rfl rfl (f_loadA (j := 1) ty_a26 ty_s26 rfl rfl rfl rfl) ?_
        obtain ⟨t54, e55, h56⟩ := nm_some h53
        refine DL.pure (v := .bool t54) rfl (Wn.yes c52 rfl rfl rfl rfl) rfl rfl rfl (by rw [e55]; exact p_eqAgg ty_g26 (fun w => eqs26 (d := 9998) t11_0_0 t11_0_1 t11_0_2 t11_0_3 t27_0_0 t27_0_1 t27_0_2 t27_0_3 w) rfl rfl rfl) ?_
        refine DL.pu 93 (.bool t54) rfl (p_pick_t c52 rfl rfl rfl) ?_
        obtain rfl := Option.some.inj h56
        exact DL.weak J51 (Sub.cons rfl (Sub.cons rfl (Sub.cons rfl (Sub.cons rfl (Sub.cons rfl (Sub.cons rfl (Sub.cons rfl (Sub.cons rfl (Sub.cons rfl (Sub.cons rfl (Sub.cons rfl (Sub.nil _))))))))))))
      · replace c52 := Bool.eq_false_iff.mpr c52
        have h57 := ite_false c52 h49
        refine DL.not (i := 9) rfl (Wn.no c52 rfl rfl rfl rfl) rfl rfl ?_
        refine DL.not (i := 10) rfl (Wn.no c52 rfl rfl rfl rfl) rfl rfl ?_
        refine DL.not (i := 11) rfl (Wn.no c52 rfl rfl rfl rfl) rfl rfl ?_
        refine DL.pu 93 (.bool false) rfl (p_pick_f c52 rfl rfl rfl) ?_
        obtain rfl := Option.some.inj h57
        exact DL.weak J51 (Sub.cons rfl (Sub.cons rfl (Sub.cons rfl (Sub.cons rfl (Sub.cons rfl (Sub.cons rfl (Sub.cons rfl (Sub.cons rfl (Sub.cons rfl (Sub.cons rfl (Sub.cons rfl (Sub.nil _))))))))))))
  · by_cases c42 : t35 = true
    · have h43 := ite_true c42 h39
      refine DL.quiet (v := .agg #[.int .i64 t7_0_0, .int .i64 t7_0_1, .int .i64 t7_0_2, .int .i64 t7_0_3]) rfl (Wn.yes c42 rfl rfl rfl rfl) rfl rfl rfl (f_loadA (j := 6) ty_a26 ty_s26 rfl rfl rfl rfl) ?_
      refine DL.quiet (v := .agg #[.int .i64 t23_0_0, .int .i64 t23_0_1, .int .i64 t23_0_2, .int .i64 t23_0_3]) rfl (Wn.yes c42 rfl rfl rfl rfl) rfl rfl rfl (f_loadA (j := 2) ty_a26 ty_s26 rfl rfl rfl rfl) ?_
      obtain ⟨t44, e45, h46⟩ := nm_some h43
      refine DL.pure (v := .bool t44) rfl (Wn.yes c42 rfl rfl rfl rfl) rfl rfl rfl (by rw [e45]; exact p_eqAgg ty_g26 (fun w => eqs26 (d := 9998) t7_0_0 t7_0_1 t7_0_2 t7_0_3 t23_0_0 t23_0_1 t23_0_2 t23_0_3 w) rfl rfl rfl) ?_
      refine DL.pu 88 (.bool t44) rfl (p_pick_t c42 rfl rfl rfl) ?_
      obtain rfl := Option.some.inj h46
      exact DL.weak J41 (Sub.cons rfl (Sub.cons rfl (Sub.cons rfl (Sub.cons rfl (Sub.cons rfl (Sub.cons rfl (Sub.cons rfl (Sub.cons rfl (Sub.cons rfl (Sub.cons rfl (Sub.cons rfl (Sub.cons rfl (Sub.cons rfl (Sub.nil _))))))))))))))
    · replace c42 := Bool.eq_false_iff.mpr c42
      have h47 := ite_false c42 h39
      refine DL.not (i := 4) rfl (Wn.no c42 rfl rfl rfl rfl) rfl rfl ?_
      refine DL.not (i := 5) rfl (Wn.no c42 rfl rfl rfl rfl) rfl rfl ?_
      refine DL.not (i := 6) rfl (Wn.no c42 rfl rfl rfl rfl) rfl rfl ?_
      refine DL.pu 88 (.bool false) rfl (p_pick_f c42 rfl rfl rfl) ?_
      obtain rfl := Option.some.inj h47
      exact DL.weak J41 (Sub.cons rfl (Sub.cons rfl (Sub.cons rfl (Sub.cons rfl (Sub.cons rfl (Sub.cons rfl (Sub.cons rfl (Sub.cons rfl (Sub.cons rfl (Sub.cons rfl (Sub.cons rfl (Sub.cons rfl (Sub.cons rfl (Sub.nil _))))))))))))))
theorem law21_PolicyChildren.val {a0_0 : Int} {a0_1 : Int} {a0_2 : Int} {a0_3 : Int} {a1_0 : Int} {a1_1 : Int} {a1_2 : Int} {a1_3 : Int} {a2 : Int} {a3 : Int} {a4 : Int} {r : Bool} (h : law21_PolicyChildren.f a0_0 a0_1 a0_2 a0_3 a1_0 a1_1 a1_2 a1_3 a2 a3 a4 = some r) (w : World) : Calls Try.prog 3 #[.agg #[.int .i64 a0_0, .int .i64 a0_1, .int .i64 a0_2, .int .i64 a0_3], .agg #[.int .i64 a1_0, .int .i64 a1_1, .int .i64 a1_2, .int .i64 a1_3], .int .i64 a2, .int .i64 a3, .int .i64 a4] w fun e w' => e = .returned (.bool r) ∧ Below w.heap.size w w' := calls_value (law21_PolicyChildren.ok h w)

/-! ### escutcheon/policy.told: function 36 -/
noncomputable def B36 : Code := bodyOf Try.f36
def policy_told.f (a0 : Bool) : Option (Int) := if a0 = true then (some 0) else (some 12)
set_option maxRecDepth 20000 in
theorem policy_told.ok {a0 : Bool} {r : Int} (h : policy_told.f a0 = some r) (w : World) : Calls Try.prog 36 #[.bool a0] w (Post (fun u => u = .int .i64 r) w) := by
  unfold policy_told.f at h
  refine calls_of_TT (N := 4) (S := [(0, .bool a0)]) (c := B36) Try.func36 rfl rfl rfl (by simp) ?_
  show TT _ _ _ _ _ _ [.code (sub [] B36)] _ _
  refine TT.seq (x := sub [0] B36) (y := sub [1] B36) ?_
  refine TT.region (id := 0) (n := 1) (ops := (opsOf (sub [0] B36))) [(.pure, none)] rfl ?_
  show DL _ _ _ _ _ _ _ _ _ _ [0] _ _
  refine DL.pu 2 (.int .i64 0) rfl (p_assign rfl rfl) ?_
  refine DL.nil ?_
  refine TT.seq (x := sub [1, 0] B36) (y := sub [1, 1] B36) ?_
  refine TT.seq (x := sub [1, 0, 0] B36) (y := sub [1, 0, 1] B36) ?_
  refine TT.region (id := 1) (n := 1) (ops := (opsOf (sub [1, 0, 0] B36))) [(.pure, none)] rfl ?_
  show DL _ _ _ _ _ _ _ _ _ _ [0] _ _
  refine DL.pu 3 (.bool a0) rfl (p_move rfl rfl) ?_
  refine DL.nil ?_
  by_cases c1 : a0 = true
  · have h2 := ite_true c1 h
    refine TT.cond_true (x := sub [1, 0, 1, 0] B36) (y := sub [1, 0, 1, 1] B36) rfl c1 ?_
    refine TT.seq (x := sub [1, 0, 1, 0, 0] B36) (y := sub [1, 0, 1, 0, 1] B36) ?_
    refine TT.region (id := 2) (n := 1) (ops := (opsOf (sub [1, 0, 1, 0, 0] B36))) [(.pure, none)] rfl ?_
    show DL _ _ _ _ _ _ _ _ _ _ [0] _ _
    refine DL.pu 2 (.int .i64 0) rfl (p_assign rfl rfl) ?_
    refine DL.nil ?_
    obtain rfl := Option.some.inj h2
    exact ret1 Try.func36 rfl (ResV.tmp rfl) rfl
  · replace c1 := Bool.eq_false_iff.mpr c1
    have h3 := ite_false c1 h
    refine TT.cond_false (x := sub [1, 0, 1, 0] B36) (y := sub [1, 0, 1, 1] B36) rfl c1 ?_
    refine TT.skip ?_
    refine TT.seq (x := sub [1, 1, 0] B36) (y := sub [1, 1, 1] B36) ?_
    refine TT.region (id := 3) (n := 1) (ops := (opsOf (sub [1, 1, 0] B36))) [(.pure, none)] rfl ?_
    show DL _ _ _ _ _ _ _ _ _ _ [0] _ _
    refine DL.pu 2 (.int .i64 12) rfl (p_assign rfl rfl) ?_
    refine DL.nil ?_
    obtain rfl := Option.some.inj h3
    exact ret1 Try.func36 rfl (ResV.tmp rfl) rfl
theorem policy_told.val {a0 : Bool} {r : Int} (h : policy_told.f a0 = some r) (w : World) : Calls Try.prog 36 #[.bool a0] w fun e w' => e = .returned (.int .i64 r) ∧ Below w.heap.size w w' := calls_value (policy_told.ok h w)

/-! ### escutcheon/policy.Wraps: function 19 -/
noncomputable def B19 : Code := bodyOf Try.f19
def policy_Wraps.f (a0_0 : Int) (a0_1 : Int) (a0_2 : Int) (a0_3 : Int) (a1_0 : Int) (a1_1 : Int) (a1_2 : Int) (a1_3 : Int) : Option (Int) := (policy_MayCard.f a0_0 a0_1 a0_2 a0_3).bind fun t3 => (if (!t3) = true then (some true) else ((policy_MayCard.f a1_0 a1_1 a1_2 a1_3).bind fun t13 => some (!t13))).bind fun q6 => if q6 = true then (some 2) else ((if ((iand .i64 a0_2 8) != 0) = true then (some ((iand .i64 a1_2 2) != 0)) else (some false)).bind fun q19 => (if q19 = true then ((policy_Kept.f a1_0 a1_1 a1_2 a1_3).bind fun t32 => (if (!t32) = true then (some true) else ((policy_Kept.f a0_0 a0_1 a0_2 a0_3).bind fun t42 => some t42)).bind fun q35 => some q35) else (some false)).bind fun q26 => (policy_told.f q26).bind fun t46 => some t46)
set_option maxRecDepth 20000 in
theorem policy_Wraps.ok {a0_0 : Int} {a0_1 : Int} {a0_2 : Int} {a0_3 : Int} {a1_0 : Int} {a1_1 : Int} {a1_2 : Int} {a1_3 : Int} {r : Int} (h : policy_Wraps.f a0_0 a0_1 a0_2 a0_3 a1_0 a1_1 a1_2 a1_3 = some r) (w : World) : Calls Try.prog 19 #[.agg #[.int .i64 a0_0, .int .i64 a0_1, .int .i64 a0_2, .int .i64 a0_3], .agg #[.int .i64 a1_0, .int .i64 a1_1, .int .i64 a1_2, .int .i64 a1_3]] w (Post (fun u => u = .int .i64 r) w) := by
  unfold policy_Wraps.f at h
  refine calls_of_TT (N := 33) (S := [(0, .agg #[.int .i64 a0_0, .int .i64 a0_1, .int .i64 a0_2, .int .i64 a0_3]), (1, .agg #[.int .i64 a1_0, .int .i64 a1_1, .int .i64 a1_2, .int .i64 a1_3])]) (c := B19) Try.func19 rfl rfl rfl (by simp) ?_
  show TT _ _ _ _ _ _ [.code (sub [] B19)] _ _
  refine TT.seq (x := sub [0] B19) (y := sub [1] B19) ?_
  refine TT.region (id := 0) (n := 3) (ops := (opsOf (sub [0] B19))) [(.alloc, none), (.alloc, none), (.pure, none)] rfl ?_
  show DL _ _ _ _ _ _ _ _ _ _ [0, 1, 2] _ _
  refine DL.new (ob := .cells (#[.int .i64 a0_0, .int .i64 a0_1, .int .i64 a0_2, .int .i64 a0_3]) 26) (mk := fun b => ptr b 0) (i := 0) rfl (Wn.none rfl) rfl rfl rfl (f_box (v := .agg #[.int .i64 a0_0, .int .i64 a0_1, .int .i64 a0_2, .int .i64 a0_3]) rfl rfl) ?_
  intro b1 hb1
  refine DL.new (ob := .cells (#[.int .i64 a1_0, .int .i64 a1_1, .int .i64 a1_2, .int .i64 a1_3]) 26) (mk := fun b => ptr b 0) (i := 1) rfl (Wn.none rfl) rfl rfl rfl (f_box (v := .agg #[.int .i64 a1_0, .int .i64 a1_1, .int .i64 a1_2, .int .i64 a1_3]) rfl rfl) ?_
  intro b2 hb2
  refine DL.pu 4 (.int .i64 0) rfl (p_assign rfl rfl) ?_
  refine DL.nil ?_
  refine TT.seq (x := sub [1, 0] B19) (y := sub [1, 1] B19) ?_
  refine TT.seq (x := sub [1, 0, 0] B19) (y := sub [1, 0, 1] B19) ?_
  refine TT.region (id := 1) (n := 8) (ops := (opsOf (sub [1, 0, 0] B19))) [(.quiet, none), (.quiet, none), (.pure, none), (.pure, none), (.quiet, none), (.quiet, none), (.pure, none), (.pure, none)] rfl ?_
  show DL _ _ _ _ _ _ _ _ _ _ [0, 1, 2, 3, 4, 5, 6, 7] _ _
  refine DL.qu 5 (.agg #[.int .i64 a0_0, .int .i64 a0_1, .int .i64 a0_2, .int .i64 a0_3]) rfl (f_loadA (j := 1) ty_a26 ty_s26 rfl rfl rfl rfl) ?_
  obtain ⟨t3, h4, h5⟩ := bind_some h
  refine DL.qu 6 (.bool t3) rfl (f_call rfl rfl (args_val (vs := [.agg #[.int .i64 a0_0, .int .i64 a0_1, .int .i64 a0_2, .int .i64 a0_3]]) rfl) (fun w => enter22 _ w) (fun w => policy_MayCard.val h4 w)) ?_
  refine DL.pu 7 (.bool (!t3)) rfl (p_not rfl rfl) ?_
  refine DL.pu 8 (.bool (!t3)) rfl (p_move rfl rfl) ?_
  obtain ⟨q6, h7, h8⟩ := bind_some h5
  refine DL.cut [(2, ptr b1 0), (3, ptr b2 0), (12, .bool q6)] [] ?_ (fun J9 => ?_)
  · refine DL.nil ?_
    by_cases c16 : q6 = true
    · have h17 := ite_true c16 h8
      refine TT.cond_true (x := sub [1, 0, 1, 0] B19) (y := sub [1, 0, 1, 1] B19) rfl c16 ?_
      refine TT.seq (x := sub [1, 0, 1, 0, 0] B19) (y := sub [1, 0, 1, 0, 1] B19) ?_
      refine TT.region (id := 2) (n := 1) (ops := (opsOf (sub [1, 0, 1, 0, 0] B19))) [(.pure, none)] rfl ?_
      show DL _ _ _ _ _ _ _ _ _ _ [0] _ _
      refine DL.pu 4 (.int .i64 2) rfl (p_assign rfl rfl) ?_
      refine DL.nil ?_
      obtain rfl := Option.some.inj h17
      exact ret1 Try.func19 rfl (ResV.tmp rfl) rfl
    · replace c16 := Bool.eq_false_iff.mpr c16
      have h18 := ite_false c16 h8
      refine TT.cond_false (x := sub [1, 0, 1, 0] B19) (y := sub [1, 0, 1, 1] B19) rfl c16 ?_
      refine TT.skip ?_
      refine TT.seq (x := sub [1, 1, 0] B19) (y := sub [1, 1, 1] B19) ?_
      refine TT.region (id := 3) (n := 21) (ops := (opsOf (sub [1, 1, 0] B19))) [(.pure, none), (.quiet, none), (.pure, none), (.pure, none), (.pure, none), (.pure, none), (.quiet, none), (.pure, none), (.pure, none), (.pure, none), (.pure, none), (.quiet, none), (.quiet, none), (.pure, none), (.pure, none), (.quiet, none), (.quiet, none), (.pure, none), (.pure, none), (.quiet, none), (.pure, none)] rfl ?_
      show DL _ _ _ _ _ _ _ _ _ _ [0, 1, 2, 3, 4, 5, 6, 7, 8, 9, 10, 11, 12, 13, 14, 15, 16, 17, 18, 19, 20] _ _
      refine DL.pu 13 (ptr b1 2) rfl (p_fieldAddr ty_f26_2 rfl rfl) ?_
      refine DL.qu 14 (.int .i64 a0_2) rfl (f_load (j := 1) ty_a24 rfl rfl rfl rfl) ?_
      refine DL.pu 15 (.int .i64 (iand .i64 a0_2 8)) rfl (p_and rfl rfl rfl) ?_
      refine DL.pu 16 (.bool ((iand .i64 a0_2 8) != 0)) rfl (p_neq rfl rfl rfl) ?_
      refine DL.pu 17 (.bool ((iand .i64 a0_2 8) != 0)) rfl (p_move rfl rfl) ?_
      obtain ⟨q19, h20, h21⟩ := bind_some h18
      refine DL.cut [(2, ptr b1 0), (3, ptr b2 0), (22, .bool q19)] [10, 11, 12, 13, 14, 15, 16, 17, 18, 19, 20] ?_ (fun J22 => ?_)
      · refine DL.pu 23 (.bool q19) rfl (p_move rfl rfl) ?_
        obtain ⟨q26, h27, h28⟩ := bind_some h21
        refine DL.cut [(31, .bool q26)] [19, 20] ?_ (fun J29 => ?_)
        · obtain ⟨t46, h47, h48⟩ := bind_some h28
          refine DL.qu 32 (.int .i64 t46) rfl (f_call rfl rfl (args_val (vs := [.bool q26]) rfl) (fun w => enter36 _ w) (fun w => policy_told.val h47 w)) ?_
          refine DL.pu 4 (.int .i64 t46) rfl (p_assign rfl rfl) ?_
          refine DL.nil ?_
          obtain rfl := Option.some.inj h48
          exact ret1 Try.func19 rfl (ResV.tmp rfl) rfl
        · by_cases c30 : q19 = true
          · have h31 := ite_true c30 h27
            refine DL.quiet (v := .agg #[.int .i64 a1_0, .int .i64 a1_1, .int .i64 a1_2, .int .i64 a1_3]) rfl (Wn.yes c30 rfl rfl rfl rfl) rfl rfl rfl (f_loadA (j := 0) ty_a26 ty_s26 rfl rfl rfl rfl) ?_
            obtain ⟨t32, h33, h34⟩ := bind_some h31
            refine DL.quiet (v := .bool t32) rfl (Wn.yes c30 rfl rfl rfl rfl) rfl rfl rfl (f_call rfl rfl (args_val (vs := [.agg #[.int .i64 a1_0, .int .i64 a1_1, .int .i64 a1_2, .int .i64 a1_3]]) rfl) (fun w => enter21 _ w) (fun w => policy_Kept.val h33 w)) ?_
            refine DL.pure (v := .bool (!t32)) rfl (Wn.yes c30 rfl rfl rfl rfl) rfl rfl rfl (p_not rfl rfl) ?_
            refine DL.pure (v := .bool (!t32)) rfl (Wn.yes c30 rfl rfl rfl rfl) rfl rfl rfl (p_move rfl rfl) ?_
            obtain ⟨q35, h36, h37⟩ := bind_some h34
            refine DL.cut [(23, .bool q19), (30, .bool q35)] [18, 19, 20] ?_ (fun J38 => ?_)
            · refine DL.pu 31 (.bool q35) rfl (p_pick_t c30 rfl rfl rfl) ?_
              obtain rfl := Option.some.inj h37
              exact DL.weak J29 (Sub.cons rfl (Sub.nil _))
            · by_cases c39 : (!t32) = true
              · have h40 := ite_true c39 h36
                refine DL.not (i := 15) rfl (Wn.yes c39 rfl rfl rfl rfl) rfl rfl ?_
                refine DL.not (i := 16) rfl (Wn.yes c39 rfl rfl rfl rfl) rfl rfl ?_
                refine DL.pure (v := .bool true) rfl (Wn.yes c30 rfl rfl rfl rfl) rfl rfl rfl (p_pick_t c39 rfl rfl rfl) ?_
                obtain rfl := Option.some.inj h40
                exact DL.weak J38 (Sub.cons rfl (Sub.cons rfl (Sub.nil _)))
              · replace c39 := Bool.eq_false_iff.mpr c39
                have h41 := ite_false c39 h36
                refine DL.quiet (v := .agg #[.int .i64 a0_0, .int .i64 a0_1, .int .i64 a0_2, .int .i64 a0_3]) rfl (Wn.no c39 rfl rfl rfl rfl) rfl rfl rfl (f_loadA (j := 1) ty_a26 ty_s26 rfl rfl rfl rfl) ?_
                obtain ⟨t42, h43, h44⟩ := bind_some h41
                refine DL.quiet (v := .bool t42) rfl (Wn.no c39 rfl rfl rfl rfl) rfl rfl rfl (f_call rfl rfl (args_val (vs := [.agg #[.int .i64 a0_0, .int .i64 a0_1, .int .i64 a0_2, .int .i64 a0_3]]) rfl) (fun w => enter21 _ w) (fun w => policy_Kept.val h43 w)) ?_
                refine DL.pure (v := .bool t42) rfl (Wn.yes c30 rfl rfl rfl rfl) rfl rfl rfl (p_pick_f c39 rfl rfl rfl) ?_
                obtain rfl := Option.some.inj h44
                exact DL.weak J38 (Sub.cons rfl (Sub.cons rfl (Sub.nil _)))
          · replace c30 := Bool.eq_false_iff.mpr c30
            have h45 := ite_false c30 h27
            refine DL.not (i := 11) rfl (Wn.no c30 rfl rfl rfl rfl) rfl rfl ?_
            refine DL.not (i := 12) rfl (Wn.no c30 rfl rfl rfl rfl) rfl rfl ?_
            refine DL.not (i := 13) rfl (Wn.no c30 rfl rfl rfl rfl) rfl rfl ?_
            refine DL.not (i := 14) rfl (Wn.no c30 rfl rfl rfl rfl) rfl rfl ?_
            refine DL.not (i := 15) rfl (Wn.undef rfl rfl rfl) rfl rfl ?_
            refine DL.not (i := 16) rfl (Wn.undef rfl rfl rfl) rfl rfl ?_
            refine DL.not (i := 17) rfl (Wn.no c30 rfl rfl rfl rfl) rfl rfl ?_
            refine DL.pu 31 (.bool false) rfl (p_pick_f c30 rfl rfl rfl) ?_
            obtain rfl := Option.some.inj h45
            exact DL.weak J29 (Sub.cons rfl (Sub.nil _))
      · by_cases c23 : ((iand .i64 a0_2 8) != 0) = true
        · have h24 := ite_true c23 h20
          refine DL.pure (v := ptr b2 2) rfl (Wn.yes c23 rfl rfl rfl rfl) rfl rfl rfl (p_fieldAddr ty_f26_2 rfl rfl) ?_
          refine DL.quiet (v := .int .i64 a1_2) rfl (Wn.yes c23 rfl rfl rfl rfl) rfl rfl rfl (f_load (j := 0) ty_a24 rfl rfl rfl rfl) ?_
          refine DL.pure (v := .int .i64 (iand .i64 a1_2 2)) rfl (Wn.yes c23 rfl rfl rfl rfl) rfl rfl rfl (p_and rfl rfl rfl) ?_
          refine DL.pure (v := .bool ((iand .i64 a1_2 2) != 0)) rfl (Wn.yes c23 rfl rfl rfl rfl) rfl rfl rfl (p_neq rfl rfl rfl) ?_
          refine DL.pu 22 (.bool ((iand .i64 a1_2 2) != 0)) rfl (p_pick_t c23 rfl rfl rfl) ?_
          obtain rfl := Option.some.inj h24
          exact DL.weak J22 (Sub.cons rfl (Sub.cons rfl (Sub.cons rfl (Sub.nil _))))
        · replace c23 := Bool.eq_false_iff.mpr c23
          have h25 := ite_false c23 h20
          refine DL.not (i := 5) rfl (Wn.no c23 rfl rfl rfl rfl) rfl rfl ?_
          refine DL.not (i := 6) rfl (Wn.no c23 rfl rfl rfl rfl) rfl rfl ?_
          refine DL.not (i := 7) rfl (Wn.no c23 rfl rfl rfl rfl) rfl rfl ?_
          refine DL.not (i := 8) rfl (Wn.no c23 rfl rfl rfl rfl) rfl rfl ?_
          refine DL.pu 22 (.bool false) rfl (p_pick_f c23 rfl rfl rfl) ?_
          obtain rfl := Option.some.inj h25
          exact DL.weak J22 (Sub.cons rfl (Sub.cons rfl (Sub.cons rfl (Sub.nil _))))
  · by_cases c10 : (!t3) = true
    · have h11 := ite_true c10 h7
      refine DL.not (i := 4) rfl (Wn.yes c10 rfl rfl rfl rfl) rfl rfl ?_
      refine DL.not (i := 5) rfl (Wn.yes c10 rfl rfl rfl rfl) rfl rfl ?_
      refine DL.not (i := 6) rfl (Wn.yes c10 rfl rfl rfl rfl) rfl rfl ?_
      refine DL.pu 12 (.bool true) rfl (p_pick_t c10 rfl rfl rfl) ?_
      obtain rfl := Option.some.inj h11
      exact DL.weak J9 (Sub.cons rfl (Sub.cons rfl (Sub.cons rfl (Sub.nil _))))
    · replace c10 := Bool.eq_false_iff.mpr c10
      have h12 := ite_false c10 h7
      refine DL.quiet (v := .agg #[.int .i64 a1_0, .int .i64 a1_1, .int .i64 a1_2, .int .i64 a1_3]) rfl (Wn.no c10 rfl rfl rfl rfl) rfl rfl rfl (f_loadA (j := 0) ty_a26 ty_s26 rfl rfl rfl rfl) ?_
      obtain ⟨t13, h14, h15⟩ := bind_some h12
      refine DL.quiet (v := .bool t13) rfl (Wn.no c10 rfl rfl rfl rfl) rfl rfl rfl (f_call rfl rfl (args_val (vs := [.agg #[.int .i64 a1_0, .int .i64 a1_1, .int .i64 a1_2, .int .i64 a1_3]]) rfl) (fun w => enter22 _ w) (fun w => policy_MayCard.val h14 w)) ?_
      refine DL.pure (v := .bool (!t13)) rfl (Wn.no c10 rfl rfl rfl rfl) rfl rfl rfl (p_not rfl rfl) ?_
      refine DL.pu 12 (.bool (!t13)) rfl (p_pick_f c10 rfl rfl rfl) ?_
      obtain rfl := Option.some.inj h15
      exact DL.weak J9 (Sub.cons rfl (Sub.cons rfl (Sub.cons rfl (Sub.nil _))))
theorem policy_Wraps.val {a0_0 : Int} {a0_1 : Int} {a0_2 : Int} {a0_3 : Int} {a1_0 : Int} {a1_1 : Int} {a1_2 : Int} {a1_3 : Int} {r : Int} (h : policy_Wraps.f a0_0 a0_1 a0_2 a0_3 a1_0 a1_1 a1_2 a1_3 = some r) (w : World) : Calls Try.prog 19 #[.agg #[.int .i64 a0_0, .int .i64 a0_1, .int .i64 a0_2, .int .i64 a0_3], .agg #[.int .i64 a1_0, .int .i64 a1_1, .int .i64 a1_2, .int .i64 a1_3]] w fun e w' => e = .returned (.int .i64 r) ∧ Below w.heap.size w w' := calls_value (policy_Wraps.ok h w)

/-! ### escutcheon/escutcheonref21.Wraps: function 20 -/
noncomputable def B20 : Code := bodyOf Try.f20
def ref21_Wraps.f (a0_0 : Int) (a0_1 : Int) (a0_2 : Int) (a0_3 : Int) (a1_0 : Int) (a1_1 : Int) (a1_2 : Int) (a1_3 : Int) : Option (Int) := (ref21_MayCard.f a0_0 a0_1 a0_2 a0_3).bind fun t3 => (if (!t3) = true then (some true) else ((ref21_MayCard.f a1_0 a1_1 a1_2 a1_3).bind fun t13 => some (!t13))).bind fun q6 => if q6 = true then (some 2) else ((ref21_Has.f a0_2 8).bind fun t19 => (if (!t19) = true then (some true) else ((ref21_Has.f a1_2 2).bind fun t29 => some (!t29))).bind fun q22 => (if q22 = true then (some true) else ((ref21_Kept.f a1_0 a1_1 a1_2 a1_3).bind fun t39 => (if t39 = true then ((ref21_Kept.f a0_0 a0_1 a0_2 a0_3).bind fun t48 => some (!t48)) else (some false)).bind fun q42 => some q42)).bind fun q32 => if q32 = true then (some 12) else (some 0))
set_option maxRecDepth 20000 in
theorem ref21_Wraps.ok {a0_0 : Int} {a0_1 : Int} {a0_2 : Int} {a0_3 : Int} {a1_0 : Int} {a1_1 : Int} {a1_2 : Int} {a1_3 : Int} {r : Int} (h : ref21_Wraps.f a0_0 a0_1 a0_2 a0_3 a1_0 a1_1 a1_2 a1_3 = some r) (w : World) : Calls Try.prog 20 #[.agg #[.int .i64 a0_0, .int .i64 a0_1, .int .i64 a0_2, .int .i64 a0_3], .agg #[.int .i64 a1_0, .int .i64 a1_1, .int .i64 a1_2, .int .i64 a1_3]] w (Post (fun u => u = .int .i64 r) w) := by
  unfold ref21_Wraps.f at h
  refine calls_of_TT (N := 32) (S := [(0, .agg #[.int .i64 a0_0, .int .i64 a0_1, .int .i64 a0_2, .int .i64 a0_3]), (1, .agg #[.int .i64 a1_0, .int .i64 a1_1, .int .i64 a1_2, .int .i64 a1_3])]) (c := B20) Try.func20 rfl rfl rfl (by simp) ?_
  show TT _ _ _ _ _ _ [.code (sub [] B20)] _ _
  refine TT.seq (x := sub [0] B20) (y := sub [1] B20) ?_
  refine TT.region (id := 0) (n := 3) (ops := (opsOf (sub [0] B20))) [(.alloc, none), (.alloc, none), (.pure, none)] rfl ?_
  show DL _ _ _ _ _ _ _ _ _ _ [0, 1, 2] _ _
  refine DL.new (ob := .cells (#[.int .i64 a0_0, .int .i64 a0_1, .int .i64 a0_2, .int .i64 a0_3]) 26) (mk := fun b => ptr b 0) (i := 0) rfl (Wn.none rfl) rfl rfl rfl (f_box (v := .agg #[.int .i64 a0_0, .int .i64 a0_1, .int .i64 a0_2, .int .i64 a0_3]) rfl rfl) ?_
  intro b1 hb1
  refine DL.new (ob := .cells (#[.int .i64 a1_0, .int .i64 a1_1, .int .i64 a1_2, .int .i64 a1_3]) 26) (mk := fun b => ptr b 0) (i := 1) rfl (Wn.none rfl) rfl rfl rfl (f_box (v := .agg #[.int .i64 a1_0, .int .i64 a1_1, .int .i64 a1_2, .int .i64 a1_3]) rfl rfl) ?_
  intro b2 hb2
  refine DL.pu 4 (.int .i64 0) rfl (p_assign rfl rfl) ?_
  refine DL.nil ?_
  refine TT.seq (x := sub [1, 0] B20) (y := sub [1, 1] B20) ?_
  refine TT.seq (x := sub [1, 0, 0] B20) (y := sub [1, 0, 1] B20) ?_
  refine TT.region (id := 1) (n := 8) (ops := (opsOf (sub [1, 0, 0] B20))) [(.quiet, none), (.quiet, none), (.pure, none), (.pure, none), (.quiet, none), (.quiet, none), (.pure, none), (.pure, none)] rfl ?_
  show DL _ _ _ _ _ _ _ _ _ _ [0, 1, 2, 3, 4, 5, 6, 7] _ _
  refine DL.qu 5 (.agg #[.int .i64 a0_0, .int .i64 a0_1, .int .i64 a0_2, .int .i64 a0_3]) rfl (f_loadA (j := 1) ty_a26 ty_s26 rfl rfl rfl rfl) ?_
  obtain ⟨t3, h4, h5⟩ := bind_some h
  refine DL.qu 6 (.bool t3) rfl (f_call rfl rfl (args_val (vs := [.agg #[.int .i64 a0_0, .int .i64 a0_1, .int .i64 a0_2, .int .i64 a0_3]]) rfl) (fun w => enter23 _ w) (fun w => ref21_MayCard.val h4 w)) ?_
  refine DL.pu 7 (.bool (!t3)) rfl (p_not rfl rfl) ?_
  refine DL.pu 8 (.bool (!t3)) rfl (p_move rfl rfl) ?_
  obtain ⟨q6, h7, h8⟩ := bind_some h5
  refine DL.cut [(2, ptr b1 0), (3, ptr b2 0), (12, .bool q6)] [] ?_ (fun J9 => ?_)
  · refine DL.nil ?_
    by_cases c16 : q6 = true
    · have h17 := ite_true c16 h8
      refine TT.cond_true (x := sub [1, 0, 1, 0] B20) (y := sub [1, 0, 1, 1] B20) rfl c16 ?_
      refine TT.seq (x := sub [1, 0, 1, 0, 0] B20) (y := sub [1, 0, 1, 0, 1] B20) ?_
      refine TT.region (id := 2) (n := 1) (ops := (opsOf (sub [1, 0, 1, 0, 0] B20))) [(.pure, none)] rfl ?_
      show DL _ _ _ _ _ _ _ _ _ _ [0] _ _
      refine DL.pu 4 (.int .i64 2) rfl (p_assign rfl rfl) ?_
      refine DL.nil ?_
      obtain rfl := Option.some.inj h17
      exact ret1 Try.func20 rfl (ResV.tmp rfl) rfl
    · replace c16 := Bool.eq_false_iff.mpr c16
      have h18 := ite_false c16 h8
      refine TT.cond_false (x := sub [1, 0, 1, 0] B20) (y := sub [1, 0, 1, 1] B20) rfl c16 ?_
      refine TT.skip ?_
      refine TT.seq (x := sub [1, 1, 0] B20) (y := sub [1, 1, 1] B20) ?_
      refine TT.seq (x := sub [1, 1, 0, 0] B20) (y := sub [1, 1, 0, 1] B20) ?_
      refine TT.region (id := 3) (n := 19) (ops := (opsOf (sub [1, 1, 0, 0] B20))) [(.pure, none), (.quiet, none), (.quiet, none), (.pure, none), (.pure, none), (.pure, none), (.quiet, none), (.quiet, none), (.pure, none), (.pure, none), (.pure, none), (.quiet, none), (.quiet, none), (.pure, none), (.quiet, none), (.quiet, none), (.pure, none), (.pure, none), (.pure, none)] rfl ?_
      show DL _ _ _ _ _ _ _ _ _ _ [0, 1, 2, 3, 4, 5, 6, 7, 8, 9, 10, 11, 12, 13, 14, 15, 16, 17, 18] _ _
      refine DL.pu 13 (ptr b1 2) rfl (p_fieldAddr ty_f26_2 rfl rfl) ?_
      refine DL.qu 14 (.int .i64 a0_2) rfl (f_load (j := 1) ty_a24 rfl rfl rfl rfl) ?_
      obtain ⟨t19, h20, h21⟩ := bind_some h18
      refine DL.qu 15 (.bool t19) rfl (f_call rfl rfl (args_val (vs := [.int .i64 a0_2, .int .i64 8]) rfl) (fun w => enter34 _ w) (fun w => ref21_Has.val h20 w)) ?_
      refine DL.pu 16 (.bool (!t19)) rfl (p_not rfl rfl) ?_
      refine DL.pu 17 (.bool (!t19)) rfl (p_move rfl rfl) ?_
      obtain ⟨q22, h23, h24⟩ := bind_some h21
      refine DL.cut [(2, ptr b1 0), (3, ptr b2 0), (22, .bool q22)] [10, 11, 12, 13, 14, 15, 16, 17, 18] ?_ (fun J25 => ?_)
      · refine DL.pu 23 (.bool q22) rfl (p_move rfl rfl) ?_
        obtain ⟨q32, h33, h34⟩ := bind_some h24
        refine DL.cut [(31, .bool q32)] [] ?_ (fun J35 => ?_)
        · refine DL.nil ?_
          by_cases c52 : q32 = true
          · have h53 := ite_true c52 h34
            refine TT.cond_true (x := sub [1, 1, 0, 1, 0] B20) (y := sub [1, 1, 0, 1, 1] B20) rfl c52 ?_
            refine TT.seq (x := sub [1, 1, 0, 1, 0, 0] B20) (y := sub [1, 1, 0, 1, 0, 1] B20) ?_
            refine TT.region (id := 4) (n := 1) (ops := (opsOf (sub [1, 1, 0, 1, 0, 0] B20))) [(.pure, none)] rfl ?_
            show DL _ _ _ _ _ _ _ _ _ _ [0] _ _
            refine DL.pu 4 (.int .i64 12) rfl (p_assign rfl rfl) ?_
            refine DL.nil ?_
            obtain rfl := Option.some.inj h53
            exact ret1 Try.func20 rfl (ResV.tmp rfl) rfl
          · replace c52 := Bool.eq_false_iff.mpr c52
            have h54 := ite_false c52 h34
            refine TT.cond_false (x := sub [1, 1, 0, 1, 0] B20) (y := sub [1, 1, 0, 1, 1] B20) rfl c52 ?_
            refine TT.skip ?_
            refine TT.seq (x := sub [1, 1, 1, 0] B20) (y := sub [1, 1, 1, 1] B20) ?_
            refine TT.region (id := 5) (n := 1) (ops := (opsOf (sub [1, 1, 1, 0] B20))) [(.pure, none)] rfl ?_
            show DL _ _ _ _ _ _ _ _ _ _ [0] _ _
            refine DL.pu 4 (.int .i64 0) rfl (p_assign rfl rfl) ?_
            refine DL.nil ?_
            obtain rfl := Option.some.inj h54
            exact ret1 Try.func20 rfl (ResV.tmp rfl) rfl
        · by_cases c36 : q22 = true
          · have h37 := ite_true c36 h33
            refine DL.not (i := 11) rfl (Wn.yes c36 rfl rfl rfl rfl) rfl rfl ?_
            refine DL.not (i := 12) rfl (Wn.yes c36 rfl rfl rfl rfl) rfl rfl ?_
            refine DL.not (i := 13) rfl (Wn.yes c36 rfl rfl rfl rfl) rfl rfl ?_
            refine DL.not (i := 14) rfl (Wn.undef rfl rfl rfl) rfl rfl ?_
            refine DL.not (i := 15) rfl (Wn.undef rfl rfl rfl) rfl rfl ?_
            refine DL.not (i := 16) rfl (Wn.undef rfl rfl rfl) rfl rfl ?_
            refine DL.not (i := 17) rfl (Wn.yes c36 rfl rfl rfl rfl) rfl rfl ?_
            refine DL.pu 31 (.bool true) rfl (p_pick_t c36 rfl rfl rfl) ?_
            obtain rfl := Option.some.inj h37
            exact DL.weak J35 (Sub.cons rfl (Sub.nil _))
          · replace c36 := Bool.eq_false_iff.mpr c36
            have h38 := ite_false c36 h33
            refine DL.quiet (v := .agg #[.int .i64 a1_0, .int .i64 a1_1, .int .i64 a1_2, .int .i64 a1_3]) rfl (Wn.no c36 rfl rfl rfl rfl) rfl rfl rfl (f_loadA (j := 0) ty_a26 ty_s26 rfl rfl rfl rfl) ?_
            obtain ⟨t39, h40, h41⟩ := bind_some h38
            refine DL.quiet (v := .bool t39) rfl (Wn.no c36 rfl rfl rfl rfl) rfl rfl rfl (f_call rfl rfl (args_val (vs := [.agg #[.int .i64 a1_0, .int .i64 a1_1, .int .i64 a1_2, .int .i64 a1_3]]) rfl) (fun w => enter24 _ w) (fun w => ref21_Kept.val h40 w)) ?_
            refine DL.pure (v := .bool t39) rfl (Wn.no c36 rfl rfl rfl rfl) rfl rfl rfl (p_move rfl rfl) ?_
            obtain ⟨q42, h43, h44⟩ := bind_some h41
            refine DL.cut [(23, .bool q22), (30, .bool q42)] [18] ?_ (fun J45 => ?_)
            · refine DL.pu 31 (.bool q42) rfl (p_pick_f c36 rfl rfl rfl) ?_
              obtain rfl := Option.some.inj h44
              exact DL.weak J35 (Sub.cons rfl (Sub.nil _))
            · by_cases c46 : t39 = true
              · have h47 := ite_true c46 h43
                refine DL.quiet (v := .agg #[.int .i64 a0_0, .int .i64 a0_1, .int .i64 a0_2, .int .i64 a0_3]) rfl (Wn.yes c46 rfl rfl rfl rfl) rfl rfl rfl (f_loadA (j := 1) ty_a26 ty_s26 rfl rfl rfl rfl) ?_
                obtain ⟨t48, h49, h50⟩ := bind_some h47
                refine DL.quiet (v := .bool t48) rfl (Wn.yes c46 rfl rfl rfl rfl) rfl rfl rfl (f_call rfl rfl (args_val (vs := [.agg #[.int .i64 a0_0, .int .i64 a0_1, .int .i64 a0_2, .int .i64 a0_3]]) rfl) (fun w => enter24 _ w) (fun w => ref21_Kept.val h49 w)) ?_
                refine DL.pure (v := .bool (!t48)) rfl (Wn.yes c46 rfl rfl rfl rfl) rfl rfl rfl (p_not rfl rfl) ?_
                refine DL.pure (v := .bool (!t48)) rfl (Wn.no c36 rfl rfl rfl rfl) rfl rfl rfl (p_pick_t c46 rfl rfl rfl) ?_
                obtain rfl := Option.some.inj h50
                exact DL.weak J45 (Sub.cons rfl (Sub.cons rfl (Sub.nil _)))
              · replace c46 := Bool.eq_false_iff.mpr c46
                have h51 := ite_false c46 h43
                refine DL.not (i := 14) rfl (Wn.no c46 rfl rfl rfl rfl) rfl rfl ?_
                refine DL.not (i := 15) rfl (Wn.no c46 rfl rfl rfl rfl) rfl rfl ?_
                refine DL.not (i := 16) rfl (Wn.no c46 rfl rfl rfl rfl) rfl rfl ?_
                refine DL.pure (v := .bool false) rfl (Wn.no c36 rfl rfl rfl rfl) rfl rfl rfl (p_pick_f c46 rfl rfl rfl) ?_
                obtain rfl := Option.some.inj h51
                exact DL.weak J45 (Sub.cons rfl (Sub.cons rfl (Sub.nil _)))
      · by_cases c26 : (!t19) = true
        · have h27 := ite_true c26 h23
          refine DL.not (i := 5) rfl (Wn.yes c26 rfl rfl rfl rfl) rfl rfl ?_
          refine DL.not (i := 6) rfl (Wn.yes c26 rfl rfl rfl rfl) rfl rfl ?_
          refine DL.not (i := 7) rfl (Wn.yes c26 rfl rfl rfl rfl) rfl rfl ?_
          refine DL.not (i := 8) rfl (Wn.yes c26 rfl rfl rfl rfl) rfl rfl ?_
          refine DL.pu 22 (.bool true) rfl (p_pick_t c26 rfl rfl rfl) ?_
          obtain rfl := Option.some.inj h27
          exact DL.weak J25 (Sub.cons rfl (Sub.cons rfl (Sub.cons rfl (Sub.nil _))))
        · replace c26 := Bool.eq_false_iff.mpr c26
          have h28 := ite_false c26 h23
          refine DL.pure (v := ptr b2 2) rfl (Wn.no c26 rfl rfl rfl rfl) rfl rfl rfl (p_fieldAddr ty_f26_2 rfl rfl) ?_
          refine DL.quiet (v := .int .i64 a1_2) rfl (Wn.no c26 rfl rfl rfl rfl) rfl rfl rfl (f_load (j := 0) ty_a24 rfl rfl rfl rfl) ?_
          obtain ⟨t29, h30, h31⟩ := bind_some h28
          refine DL.quiet (v := .bool t29) rfl (Wn.no c26 rfl rfl rfl rfl) rfl rfl rfl (f_call rfl rfl (args_val (vs := [.int .i64 a1_2, .int .i64 2]) rfl) (fun w => enter34 _ w) (fun w => ref21_Has.val h30 w)) ?_
          refine DL.pure (v := .bool (!t29)) rfl (Wn.no c26 rfl rfl rfl rfl) rfl rfl rfl (p_not rfl rfl) ?_
          refine DL.pu 22 (.bool (!t29)) rfl (p_pick_f c26 rfl rfl rfl) ?_
          obtain rfl := Option.some.inj h31
          exact DL.weak J25 (Sub.cons rfl (Sub.cons rfl (Sub.cons rfl (Sub.nil _))))
  · by_cases c10 : (!t3) = true
    · have h11 := ite_true c10 h7
      refine DL.not (i := 4) rfl (Wn.yes c10 rfl rfl rfl rfl) rfl rfl ?_
      refine DL.not (i := 5) rfl (Wn.yes c10 rfl rfl rfl rfl) rfl rfl ?_
      refine DL.not (i := 6) rfl (Wn.yes c10 rfl rfl rfl rfl) rfl rfl ?_
      refine DL.pu 12 (.bool true) rfl (p_pick_t c10 rfl rfl rfl) ?_
      obtain rfl := Option.some.inj h11
      exact DL.weak J9 (Sub.cons rfl (Sub.cons rfl (Sub.cons rfl (Sub.nil _))))
    · replace c10 := Bool.eq_false_iff.mpr c10
      have h12 := ite_false c10 h7
      refine DL.quiet (v := .agg #[.int .i64 a1_0, .int .i64 a1_1, .int .i64 a1_2, .int .i64 a1_3]) rfl (Wn.no c10 rfl rfl rfl rfl) rfl rfl rfl (f_loadA (j := 0) ty_a26 ty_s26 rfl rfl rfl rfl) ?_
      obtain ⟨t13, h14, h15⟩ := bind_some h12
      refine DL.quiet (v := .bool t13) rfl (Wn.no c10 rfl rfl rfl rfl) rfl rfl rfl (f_call rfl rfl (args_val (vs := [.agg #[.int .i64 a1_0, .int .i64 a1_1, .int .i64 a1_2, .int .i64 a1_3]]) rfl) (fun w => enter23 _ w) (fun w => ref21_MayCard.val h14 w)) ?_
      refine DL.pure (v := .bool (!t13)) rfl (Wn.no c10 rfl rfl rfl rfl) rfl rfl rfl (p_not rfl rfl) ?_
      refine DL.pu 12 (.bool (!t13)) rfl (p_pick_f c10 rfl rfl rfl) ?_
      obtain rfl := Option.some.inj h15
      exact DL.weak J9 (Sub.cons rfl (Sub.cons rfl (Sub.cons rfl (Sub.nil _))))
theorem ref21_Wraps.val {a0_0 : Int} {a0_1 : Int} {a0_2 : Int} {a0_3 : Int} {a1_0 : Int} {a1_1 : Int} {a1_2 : Int} {a1_3 : Int} {r : Int} (h : ref21_Wraps.f a0_0 a0_1 a0_2 a0_3 a1_0 a1_1 a1_2 a1_3 = some r) (w : World) : Calls Try.prog 20 #[.agg #[.int .i64 a0_0, .int .i64 a0_1, .int .i64 a0_2, .int .i64 a0_3], .agg #[.int .i64 a1_0, .int .i64 a1_1, .int .i64 a1_2, .int .i64 a1_3]] w fun e w' => e = .returned (.int .i64 r) ∧ Below w.heap.size w w' := calls_value (ref21_Wraps.ok h w)

end Go.Proofs.Ytbnmoonelaolcaa
