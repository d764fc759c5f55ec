import Derived.Test.YtbnmoonelaolcaaPo1
namespace Go.Proofs.Ytbnmoonelaolcaa
open Go Go.HW Go.RowKit
set_option linter.unusedVariables false
set_option linter.unusedSimpArgs false

/-! ### escutcheon/escutcheonlaw21.PolicyChildren: function 3 -/
noncomputable def B3 : Code := bodyOf Try.f3
def law21_PolicyChildren.f (a0_0 : Int) (a0_1 : Int) (a0_2 : Int) (a0_3 : Int) (a1_0 : Int) (a1_1 : Int) (a1_2 : Int) (a1_3 : Int) (a2 : Int) (a3 : Int) (a4 : Int) : Option (Bool) := (policy_New.f a2 a3 a4).bind fun (t3_0_0, t3_0_1, t3_0_2, t3_0_3, t3_1) => (policy_Derived.f a0_0 a0_1 a0_2 a0_3 a3 a4).bind fun (t7_0_0, t7_0_1, t7_0_2, t7_0_3, t7_1) => (policy_Unwrapped.f a0_0 a0_1 a0_2 a0_3 a1_0 a1_1 a1_2 a1_3 a4).bind fun (t11_0_0, t11_0_1, t11_0_2, t11_0_3, t11_1) => (policy_Lower.f a0_0 a0_1 a0_2 a0_3 a4).bind fun (t15_0_0, t15_0_1, t15_0_2, t15_0_3, t15_1) => (ref21_New.f a2 a3 a4).bind fun (t19_0_0, t19_0_1, t19_0_2, t19_0_3, t19_1) => (ref21_Derived.f a0_0 a0_1 a0_2 a0_3 a3 a4).bind fun (t23_0_0, t23_0_1, t23_0_2, t23_0_3, t23_1) => (ref21_Unwrapped.f a0_0 a0_1 a0_2 a0_3 a1_0 a1_1 a1_2 a1_3 a4).bind fun (t27_0_0, t27_0_1, t27_0_2, t27_0_3, t27_1) => (ref21_Lower.f a0_0 a0_1 a0_2 a0_3 a4).bind fun (t31_0_0, t31_0_1, t31_0_2, t31_0_3, t31_1) => nm (t3_0_0 == t19_0_0 && (t3_0_1 == t19_0_1 && (t3_0_2 == t19_0_2 && (t3_0_3 == t19_0_3 && true)))) fun t35 => (if t35 = true then (nm (t7_0_0 == t23_0_0 && (t7_0_1 == t23_0_1 && (t7_0_2 == t23_0_2 && (t7_0_3 == t23_0_3 && true)))) fun t44 => some t44) else (some false)).bind fun q38 => (if q38 = true then (nm (t11_0_0 == t27_0_0 && (t11_0_1 == t27_0_1 && (t11_0_2 == t27_0_2 && (t11_0_3 == t27_0_3 && true)))) fun t54 => some t54) else (some false)).bind fun q48 => (if q48 = true then (nm (t15_0_0 == t31_0_0 && (t15_0_1 == t31_0_1 && (t15_0_2 == t31_0_2 && (t15_0_3 == t31_0_3 && true)))) fun t64 => some t64) else (some false)).bind fun q58 => (if q58 = true then ((law21_num.f t3_1).bind fun t74 => some (t74 == t19_1)) else (some false)).bind fun q68 => (if q68 = true then ((law21_num.f t7_1).bind fun t84 => some (t84 == t23_1)) else (some false)).bind fun q78 => (if q78 = true then ((law21_num.f t11_1).bind fun t94 => some (t94 == t27_1)) else (some false)).bind fun q88 => (if q88 = true then ((law21_num.f t15_1).bind fun t104 => some (t104 == t31_1)) else (some false)).bind fun q98 => (if q98 = true then ((law21_known.f).bind fun t114 => some t114) else (some false)).bind fun q108 => some q108
set_option maxRecDepth 20000 in
theorem law21_PolicyChildren.ok {a0_0 : Int} {a0_1 : Int} {a0_2 : Int} {a0_3 : Int} {a1_0 : Int} {a1_1 : Int} {a1_2 : Int} {a1_3 : Int} {a2 : Int} {a3 : Int} {a4 : Int} {r : Bool} (h : law21_PolicyChildren.f a0_0 a0_1 a0_2 a0_3 a1_0 a1_1 a1_2 a1_3 a2 a3 a4 = some r) (w : World) : Calls Try.prog 3 #[.agg #[.int .i64 a0_0, .int .i64 a0_1, .int .i64 a0_2, .int .i64 a0_3], .agg #[.int .i64 a1_0, .int .i64 a1_1, .int .i64 a1_2, .int .i64 a1_3], .int .i64 a2, .int .i64 a3, .int .i64 a4] w (Post (fun u => u = .bool r) w) := by
  unfold law21_PolicyChildren.f at h
  refine calls_of_TT (N := 126) (S := [(0, .agg #[.int .i64 a0_0, .int .i64 a0_1, .int .i64 a0_2, .int .i64 a0_3]), (1, .agg #[.int .i64 a1_0, .int .i64 a1_1, .int .i64 a1_2, .int .i64 a1_3]), (2, .int .i64 a2), (3, .int .i64 a3), (4, .int .i64 a4)]) (c := B3) Try.func3 rfl rfl rfl (by simp) ?_
  show TT _ _ _ _ _ _ [.code (sub [] B3)] _ _
  refine TT.seq (x := sub [0] B3) (y := sub [1] B3) ?_
  refine TT.region (id := 0) (n := 3) (ops := (opsOf (sub [0] B3))) [(.alloc, none), (.alloc, none), (.pure, none)] rfl ?_
  show DL _ _ _ _ _ _ _ _ _ _ [0, 1, 2] _ _
  refine DL.new (ob := .cells (#[.int .i64 a0_0, .int .i64 a0_1, .int .i64 a0_2, .int .i64 a0_3]) 26) (mk := fun b => ptr b 0) (i := 0) rfl (Wn.none rfl) rfl rfl rfl (f_box (v := .agg #[.int .i64 a0_0, .int .i64 a0_1, .int .i64 a0_2, .int .i64 a0_3]) rfl rfl) ?_
  intro b1 hb1
  refine DL.new (ob := .cells (#[.int .i64 a1_0, .int .i64 a1_1, .int .i64 a1_2, .int .i64 a1_3]) 26) (mk := fun b => ptr b 0) (i := 1) rfl (Wn.none rfl) rfl rfl rfl (f_box (v := .agg #[.int .i64 a1_0, .int .i64 a1_1, .int .i64 a1_2, .int .i64 a1_3]) rfl rfl) ?_
  intro b2 hb2
  refine DL.pu 10 (.bool false) rfl (p_assign rfl rfl) ?_
  refine DL.nil ?_
  refine TT.seq (x := sub [1, 0] B3) (y := sub [1, 1] B3) ?_
  refine TT.region (id := 1) (n := 10) (ops := (opsOf (sub [1, 0] B3))) [(.pure, none), (.pure, none), (.pure, none), (.quiet, none), (.pure, none), (.pure, none), (.pure, none), (.alloc, none), (.store, none), (.pure, none)] rfl ?_
  show DL _ _ _ _ _ _ _ _ _ _ [0, 1, 2, 3, 4, 5, 6, 7, 8, 9] _ _
  refine DL.pu 28 (.int .i64 a2) rfl (p_move rfl rfl) ?_
  refine DL.pu 29 (.int .i64 a3) rfl (p_move rfl rfl) ?_
  refine DL.pu 30 (.int .i64 a4) rfl (p_move rfl rfl) ?_
  obtain ⟨⟨t3_0_0, t3_0_1, t3_0_2, t3_0_3, t3_1⟩, h4, h5⟩ := bind_some h
  refine DL.qu 31 (.tuple #[.agg #[.int .i64 t3_0_0, .int .i64 t3_0_1, .int .i64 t3_0_2, .int .i64 t3_0_3], .int .i64 t3_1]) rfl (f_call rfl rfl (args_val (vs := [.int .i64 a2, .int .i64 a3, .int .i64 a4]) rfl) (fun w => enter7 _ w) (fun w => policy_New.val h4 w)) ?_
  refine DL.pu 27 (.tuple #[.agg #[.int .i64 t3_0_0, .int .i64 t3_0_1, .int .i64 t3_0_2, .int .i64 t3_0_3], .int .i64 t3_1]) rfl (p_move rfl rfl) ?_
  refine DL.pu 32 (.agg #[.int .i64 t3_0_0, .int .i64 t3_0_1, .int .i64 t3_0_2, .int .i64 t3_0_3]) rfl (p_extract rfl rfl rfl) ?_
  refine DL.pu 33 (.int .i64 t3_1) rfl (p_extract rfl rfl rfl) ?_
  refine DL.new (ob := .cells (#[.int .i64 0, .int .i64 0, .int .i64 0, .int .i64 0]) 26) (mk := fun b => ptr b 0) (i := 7) rfl (Wn.none rfl) rfl rfl rfl (f_alloc ty_z26 rfl) ?_
  intro b6 hb6
  refine DL.put (H' := [(some b6, .cells (#[.int .i64 t3_0_0, .int .i64 t3_0_1, .int .i64 t3_0_2, .int .i64 t3_0_3]) 26 (0, 0)), (some b2, .cells (#[.int .i64 a1_0, .int .i64 a1_1, .int .i64 a1_2, .int .i64 a1_3]) 26 (0, 0)), (some b1, .cells (#[.int .i64 a0_0, .int .i64 a0_1, .int .i64 a0_2, .int .i64 a0_3]) 26 (0, 0))]) (i := 8) rfl (Wn.none rfl) rfl rfl (f_storeA (j := 0) ty_s26 rfl rfl rfl (by simp [OneCell]) rfl rfl rfl) (keep_none rfl) ?_
  refine DL.pu 12 (.int .i64 t3_1) rfl (p_assign rfl rfl) ?_
  refine DL.nil ?_
  refine TT.seq (x := sub [1, 1, 0] B3) (y := sub [1, 1, 1] B3) ?_
  refine TT.region (id := 2) (n := 10) (ops := (opsOf (sub [1, 1, 0] B3))) [(.quiet, none), (.pure, none), (.pure, none), (.quiet, none), (.pure, none), (.pure, none), (.pure, none), (.alloc, none), (.store, none), (.pure, none)] rfl ?_
  show DL _ _ _ _ _ _ _ _ _ _ [0, 1, 2, 3, 4, 5, 6, 7, 8, 9] _ _
  refine DL.qu 35 (.agg #[.int .i64 a0_0, .int .i64 a0_1, .int .i64 a0_2, .int .i64 a0_3]) rfl (f_loadA (j := 2) ty_a26 ty_s26 rfl rfl rfl rfl) ?_
  refine DL.pu 36 (.int .i64 a3) rfl (p_move rfl rfl) ?_
  refine DL.pu 37 (.int .i64 a4) rfl (p_move rfl rfl) ?_
  obtain ⟨⟨t7_0_0, t7_0_1, t7_0_2, t7_0_3, t7_1⟩, h8, h9⟩ := bind_some h5
  refine DL.qu 38 (.tuple #[.agg #[.int .i64 t7_0_0, .int .i64 t7_0_1, .int .i64 t7_0_2, .int .i64 t7_0_3], .int .i64 t7_1]) rfl (f_call rfl rfl (args_val (vs := [.agg #[.int .i64 a0_0, .int .i64 a0_1, .int .i64 a0_2, .int .i64 a0_3], .int .i64 a3, .int .i64 a4]) rfl) (fun w => enter8 _ w) (fun w => policy_Derived.val h8 w)) ?_
  refine DL.pu 34 (.tuple #[.agg #[.int .i64 t7_0_0, .int .i64 t7_0_1, .int .i64 t7_0_2, .int .i64 t7_0_3], .int .i64 t7_1]) rfl (p_move rfl rfl) ?_
  refine DL.pu 39 (.agg #[.int .i64 t7_0_0, .int .i64 t7_0_1, .int .i64 t7_0_2, .int .i64 t7_0_3]) rfl (p_extract rfl rfl rfl) ?_
  refine DL.pu 40 (.int .i64 t7_1) rfl (p_extract rfl rfl rfl) ?_
  refine DL.new (ob := .cells (#[.int .i64 0, .int .i64 0, .int .i64 0, .int .i64 0]) 26) (mk := fun b => ptr b 0) (i := 7) rfl (Wn.none rfl) rfl rfl rfl (f_alloc ty_z26 rfl) ?_
  intro b10 hb10
  refine DL.put (H' := [(some b10, .cells (#[.int .i64 t7_0_0, .int .i64 t7_0_1, .int .i64 t7_0_2, .int .i64 t7_0_3]) 26 (0, 0)), (some b6, .cells (#[.int .i64 t3_0_0, .int .i64 t3_0_1, .int .i64 t3_0_2, .int .i64 t3_0_3]) 26 (0, 0)), (some b2, .cells (#[.int .i64 a1_0, .int .i64 a1_1, .int .i64 a1_2, .int .i64 a1_3]) 26 (0, 0)), (some b1, .cells (#[.int .i64 a0_0, .int .i64 a0_1, .int .i64 a0_2, .int .i64 a0_3]) 26 (0, 0))]) (i := 8) rfl (Wn.none rfl) rfl rfl (f_storeA (j := 0) ty_s26 rfl rfl rfl (by simp [OneCell]) rfl rfl rfl) (keep_none rfl) ?_
  refine DL.pu 14 (.int .i64 t7_1) rfl (p_assign rfl rfl) ?_
  refine DL.nil ?_
  refine TT.seq (x := sub [1, 1, 1, 0] B3) (y := sub [1, 1, 1, 1] B3) ?_
  refine TT.region (id := 3) (n := 10) (ops := (opsOf (sub [1, 1, 1, 0] B3))) [(.quiet, none), (.quiet, none), (.pure, none), (.quiet, none), (.pure, none), (.pure, none), (.pure, none), (.alloc, none), (.store, none), (.pure, none)] rfl ?_
  show DL _ _ _ _ _ _ _ _ _ _ [0, 1, 2, 3, 4, 5, 6, 7, 8, 9] _ _
  refine DL.qu 42 (.agg #[.int .i64 a0_0, .int .i64 a0_1, .int .i64 a0_2, .int .i64 a0_3]) rfl (f_loadA (j := 3) ty_a26 ty_s26 rfl rfl rfl rfl) ?_
  refine DL.qu 43 (.agg #[.int .i64 a1_0, .int .i64 a1_1, .int .i64 a1_2, .int .i64 a1_3]) rfl (f_loadA (j := 2) ty_a26 ty_s26 rfl rfl rfl rfl) ?_
  refine DL.pu 44 (.int .i64 a4) rfl (p_move rfl rfl) ?_
  obtain ⟨⟨t11_0_0, t11_0_1, t11_0_2, t11_0_3, t11_1⟩, h12, h13⟩ := bind_some h9
  refine DL.qu 45 (.tuple #[.agg #[.int .i64 t11_0_0, .int .i64 t11_0_1, .int .i64 t11_0_2, .int .i64 t11_0_3], .int .i64 t11_1]) rfl (f_call rfl rfl (args_val (vs := [.agg #[.int .i64 a0_0, .int .i64 a0_1, .int .i64 a0_2, .int .i64 a0_3], .agg #[.int .i64 a1_0, .int .i64 a1_1, .int .i64 a1_2, .int .i64 a1_3], .int .i64 a4]) rfl) (fun w => enter9 _ w) (fun w => policy_Unwrapped.val h12 w)) ?_
  refine DL.pu 41 (.tuple #[.agg #[.int .i64 t11_0_0, .int .i64 t11_0_1, .int .i64 t11_0_2, .int .i64 t11_0_3], .int .i64 t11_1]) rfl (p_move rfl rfl) ?_
  refine DL.pu 46 (.agg #[.int .i64 t11_0_0, .int .i64 t11_0_1, .int .i64 t11_0_2, .int .i64 t11_0_3]) rfl (p_extract rfl rfl rfl) ?_
  refine DL.pu 47 (.int .i64 t11_1) rfl (p_extract rfl rfl rfl) ?_
  refine DL.new (ob := .cells (#[.int .i64 0, .int .i64 0, .int .i64 0, .int .i64 0]) 26) (mk := fun b => ptr b 0) (i := 7) rfl (Wn.none rfl) rfl rfl rfl (f_alloc ty_z26 rfl) ?_
  intro b14 hb14
  refine DL.put (H' := [(some b14, .cells (#[.int .i64 t11_0_0, .int .i64 t11_0_1, .int .i64 t11_0_2, .int .i64 t11_0_3]) 26 (0, 0)), (some b10, .cells (#[.int .i64 t7_0_0, .int .i64 t7_0_1, .int .i64 t7_0_2, .int .i64 t7_0_3]) 26 (0, 0)), (some b6, .cells (#[.int .i64 t3_0_0, .int .i64 t3_0_1, .int .i64 t3_0_2, .int .i64 t3_0_3]) 26 (0, 0)), (some b2, .cells (#[.int .i64 a1_0, .int .i64 a1_1, .int .i64 a1_2, .int .i64 a1_3]) 26 (0, 0)), (some b1, .cells (#[.int .i64 a0_0, .int .i64 a0_1, .int .i64 a0_2, .int .i64 a0_3]) 26 (0, 0))]) (i := 8) rfl (Wn.none rfl) rfl rfl (f_storeA (j := 0) ty_s26 rfl rfl rfl (by simp [OneCell]) rfl rfl rfl) (keep_none rfl) ?_
  refine DL.pu 16 (.int .i64 t11_1) rfl (p_assign rfl rfl) ?_
  refine DL.nil ?_
  refine TT.seq (x := sub [1, 1, 1, 1, 0] B3) (y := sub [1, 1, 1, 1, 1] B3) ?_
  refine TT.region (id := 4) (n := 9) (ops := (opsOf (sub [1, 1, 1, 1, 0] B3))) [(.quiet, none), (.pure, none), (.quiet, none), (.pure, none), (.pure, none), (.pure, none), (.alloc, none), (.store, none), (.pure, none)] rfl ?_
  show DL _ _ _ _ _ _ _ _ _ _ [0, 1, 2, 3, 4, 5, 6, 7, 8] _ _
  refine DL.qu 49 (.agg #[.int .i64 a0_0, .int .i64 a0_1, .int .i64 a0_2, .int .i64 a0_3]) rfl (f_loadA (j := 4) ty_a26 ty_s26 rfl rfl rfl rfl) ?_
  refine DL.pu 50 (.int .i64 a4) rfl (p_move rfl rfl) ?_
  obtain ⟨⟨t15_0_0, t15_0_1, t15_0_2, t15_0_3, t15_1⟩, h16, h17⟩ := bind_some h13
  refine DL.qu 51 (.tuple #[.agg #[.int .i64 t15_0_0, .int .i64 t15_0_1, .int .i64 t15_0_2, .int .i64 t15_0_3], .int .i64 t15_1]) rfl (f_call rfl rfl (args_val (vs := [.agg #[.int .i64 a0_0, .int .i64 a0_1, .int .i64 a0_2, .int .i64 a0_3], .int .i64 a4]) rfl) (fun w => enter10 _ w) (fun w => policy_Lower.val h16 w)) ?_
  refine DL.pu 48 (.tuple #[.agg #[.int .i64 t15_0_0, .int .i64 t15_0_1, .int .i64 t15_0_2, .int .i64 t15_0_3], .int .i64 t15_1]) rfl (p_move rfl rfl) ?_
  refine DL.pu 52 (.agg #[.int .i64 t15_0_0, .int .i64 t15_0_1, .int .i64 t15_0_2, .int .i64 t15_0_3]) rfl (p_extract rfl rfl rfl) ?_
  refine DL.pu 53 (.int .i64 t15_1) rfl (p_extract rfl rfl rfl) ?_
  refine DL.new (ob := .cells (#[.int .i64 0, .int .i64 0, .int .i64 0, .int .i64 0]) 26) (mk := fun b => ptr b 0) (i := 6) rfl (Wn.none rfl) rfl rfl rfl (f_alloc ty_z26 rfl) ?_
  intro b18 hb18
  refine DL.put (H' := [(some b18, .cells (#[.int .i64 t15_0_0, .int .i64 t15_0_1, .int .i64 t15_0_2, .int .i64 t15_0_3]) 26 (0, 0)), (some b14, .cells (#[.int .i64 t11_0_0, .int .i64 t11_0_1, .int .i64 t11_0_2, .int .i64 t11_0_3]) 26 (0, 0)), (some b10, .cells (#[.int .i64 t7_0_0, .int .i64 t7_0_1, .int .i64 t7_0_2, .int .i64 t7_0_3]) 26 (0, 0)), (some b6, .cells (#[.int .i64 t3_0_0, .int .i64 t3_0_1, .int .i64 t3_0_2, .int .i64 t3_0_3]) 26 (0, 0)), (some b2, .cells (#[.int .i64 a1_0, .int .i64 a1_1, .int .i64 a1_2, .int .i64 a1_3]) 26 (0, 0)), (some b1, .cells (#[.int .i64 a0_0, .int .i64 a0_1, .int .i64 a0_2, .int .i64 a0_3]) 26 (0, 0))]) (i := 7) rfl (Wn.none rfl) rfl rfl (f_storeA (j := 0) ty_s26 rfl rfl rfl (by simp [OneCell]) rfl rfl rfl) (keep_none rfl) ?_
  refine DL.pu 18 (.int .i64 t15_1) rfl (p_assign rfl rfl) ?_
  refine DL.nil ?_
  refine TT.seq (x := sub [1, 1, 1, 1, 1, 0] B3) (y := sub [1, 1, 1, 1, 1, 1] B3) ?_
  refine TT.region (id := 5) (n := 10) (ops := (opsOf (sub [1, 1, 1, 1, 1, 0] B3))) [(.pure, none), (.pure, none), (.pure, none), (.quiet, none), (.pure, none), (.pure, none), (.pure, none), (.alloc, none), (.store, none), (.pure, none)] rfl ?_
  show DL _ _ _ _ _ _ _ _ _ _ [0, 1, 2, 3, 4, 5, 6, 7, 8, 9] _ _
  refine DL.pu 55 (.int .i64 a2) rfl (p_move rfl rfl) ?_
  refine DL.pu 56 (.int .i64 a3) rfl (p_move rfl rfl) ?_
  refine DL.pu 57 (.int .i64 a4) rfl (p_move rfl rfl) ?_
  obtain ⟨⟨t19_0_0, t19_0_1, t19_0_2, t19_0_3, t19_1⟩, h20, h21⟩ := bind_some h17
  refine DL.qu 58 (.tuple #[.agg #[.int .i64 t19_0_0, .int .i64 t19_0_1, .int .i64 t19_0_2, .int .i64 t19_0_3], .int .i64 t19_1]) rfl (f_call rfl rfl (args_val (vs := [.int .i64 a2, .int .i64 a3, .int .i64 a4]) rfl) (fun w => enter11 _ w) (fun w => ref21_New.val h20 w)) ?_
  refine DL.pu 54 (.tuple #[.agg #[.int .i64 t19_0_0, .int .i64 t19_0_1, .int .i64 t19_0_2, .int .i64 t19_0_3], .int .i64 t19_1]) rfl (p_move rfl rfl) ?_
  refine DL.pu 59 (.agg #[.int .i64 t19_0_0, .int .i64 t19_0_1, .int .i64 t19_0_2, .int .i64 t19_0_3]) rfl (p_extract rfl rfl rfl) ?_
  refine DL.pu 60 (.int .i64 t19_1) rfl (p_extract rfl rfl rfl) ?_
  refine DL.new (ob := .cells (#[.int .i64 0, .int .i64 0, .int .i64 0, .int .i64 0]) 26) (mk := fun b => ptr b 0) (i := 7) rfl (Wn.none rfl) rfl rfl rfl (f_alloc ty_z26 rfl) ?_
  intro b22 hb22
  refine DL.put (H' := [(some b22, .cells (#[.int .i64 t19_0_0, .int .i64 t19_0_1, .int .i64 t19_0_2, .int .i64 t19_0_3]) 26 (0, 0)), (some b18, .cells (#[.int .i64 t15_0_0, .int .i64 t15_0_1, .int .i64 t15_0_2, .int .i64 t15_0_3]) 26 (0, 0)), (some b14, .cells (#[.int .i64 t11_0_0, .int .i64 t11_0_1, .int .i64 t11_0_2, .int .i64 t11_0_3]) 26 (0, 0)), (some b10, .cells (#[.int .i64 t7_0_0, .int .i64 t7_0_1, .int .i64 t7_0_2, .int .i64 t7_0_3]) 26 (0, 0)), (some b6, .cells (#[.int .i64 t3_0_0, .int .i64 t3_0_1, .int .i64 t3_0_2, .int .i64 t3_0_3]) 26 (0, 0)), (some b2, .cells (#[.int .i64 a1_0, .int .i64 a1_1, .int .i64 a1_2, .int .i64 a1_3]) 26 (0, 0)), (some b1, .cells (#[.int .i64 a0_0, .int .i64 a0_1, .int .i64 a0_2, .int .i64 a0_3]) 26 (0, 0))]) (i := 8) rfl (Wn.none rfl) rfl rfl (f_storeA (j := 0) ty_s26 rfl rfl rfl (by simp [OneCell]) rfl rfl rfl) (keep_none rfl) ?_
  refine DL.pu 20 (.int .i64 t19_1) rfl (p_assign rfl rfl) ?_
  refine DL.nil ?_
  refine TT.seq (x := sub [1, 1, 1, 1, 1, 1, 0] B3) (y := sub [1, 1, 1, 1, 1, 1, 1] B3) ?_
  refine TT.region (id := 6) (n := 10) (ops := (opsOf (sub [1, 1, 1, 1, 1, 1, 0] B3))) [(.quiet, none), (.pure, none), (.pure, none), (.quiet, none), (.pure, none), (.pure, none), (.pure, none), (.alloc, none), (.store, none), (.pure, none)] rfl ?_
  show DL _ _ _ _ _ _ _ _ _ _ [0, 1, 2, 3, 4, 5, 6, 7, 8, 9] _ _
  refine DL.qu 62 (.agg #[.int .i64 a0_0, .int .i64 a0_1, .int .i64 a0_2, .int .i64 a0_3]) rfl (f_loadA (j := 6) ty_a26 ty_s26 rfl rfl rfl rfl) ?_
  refine DL.pu 63 (.int .i64 a3) rfl (p_move rfl rfl) ?_
  refine DL.pu 64 (.int .i64 a4) rfl (p_move rfl rfl) ?_
  obtain ⟨⟨t23_0_0, t23_0_1, t23_0_2, t23_0_3, t23_1⟩, h24, h25⟩ := bind_some h21
  refine DL.qu 65 (.tuple #[.agg #[.int .i64 t23_0_0, .int .i64 t23_0_1, .int .i64 t23_0_2, .int .i64 t23_0_3], .int .i64 t23_1]) rfl (f_call rfl rfl (args_val (vs := [.agg #[.int .i64 a0_0, .int .i64 a0_1, .int .i64 a0_2, .int .i64 a0_3], .int .i64 a3, .int .i64 a4]) rfl) (fun w => enter12 _ w) (fun w => ref21_Derived.val h24 w)) ?_
  refine DL.pu 61 (.tuple #[.agg #[.int .i64 t23_0_0, .int .i64 t23_0_1, .int .i64 t23_0_2, .int .i64 t23_0_3], .int .i64 t23_1]) rfl (p_move rfl rfl) ?_
  refine DL.pu 66 (.agg #[.int .i64 t23_0_0, .int .i64 t23_0_1, .int .i64 t23_0_2, .int .i64 t23_0_3]) rfl (p_extract rfl rfl rfl) ?_
  refine DL.pu 67 (.int .i64 t23_1) rfl (p_extract rfl rfl rfl) ?_
  refine DL.new (ob := .cells (#[.int .i64 0, .int .i64 0, .int .i64 0, .int .i64 0]) 26) (mk := fun b => ptr b 0) (i := 7) rfl (Wn.none rfl) rfl rfl rfl (f_alloc ty_z26 rfl) ?_
  intro b26 hb26
  refine DL.put (H' := [(some b26, .cells (#[.int .i64 t23_0_0, .int .i64 t23_0_1, .int .i64 t23_0_2, .int .i64 t23_0_3]) 26 (0, 0)), (some b22, .cells (#[.int .i64 t19_0_0, .int .i64 t19_0_1, .int .i64 t19_0_2, .int .i64 t19_0_3]) 26 (0, 0)), (some b18, .cells (#[.int .i64 t15_0_0, .int .i64 t15_0_1, .int .i64 t15_0_2, .int .i64 t15_0_3]) 26 (0, 0)), (some b14, .cells (#[.int .i64 t11_0_0, .int .i64 t11_0_1, .int .i64 t11_0_2, .int .i64 t11_0_3]) 26 (0, 0)), (some b10, .cells (#[.int .i64 t7_0_0, .int .i64 t7_0_1, .int .i64 t7_0_2, .int .i64 t7_0_3]) 26 (0, 0)), (some b6, .cells (#[.int .i64 t3_0_0, .int .i64 t3_0_1, .int .i64 t3_0_2, .int .i64 t3_0_3]) 26 (0, 0)), (some b2, .cells (#[.int .i64 a1_0, .int .i64 a1_1, .int .i64 a1_2, .int .i64 a1_3]) 26 (0, 0)), (some b1, .cells (#[.int .i64 a0_0, .int .i64 a0_1, .int .i64 a0_2, .int .i64 a0_3]) 26 (0, 0))]) (i := 8) rfl (Wn.none rfl) rfl rfl (f_storeA (j := 0) ty_s26 rfl rfl rfl (by simp [OneCell]) rfl rfl rfl) (keep_none rfl) ?_
  refine DL.pu 22 (.int .i64 t23_1) rfl (p_assign rfl rfl) ?_
  refine DL.nil ?_
  refine TT.seq (x := sub [1, 1, 1, 1, 1, 1, 1, 0] B3) (y := sub [1, 1, 1, 1, 1, 1, 1, 1] B3) ?_
  refine TT.region (id := 7) (n := 10) (ops := (opsOf (sub [1, 1, 1, 1, 1, 1, 1, 0] B3))) [(.quiet, none), (.quiet, none), (.pure, none), (.quiet, none), (.pure, none), (.pure, none), (.pure, none), (.alloc, none), (.store, none), (.pure, none)] rfl ?_
  show DL _ _ _ _ _ _ _ _ _ _ [0, 1, 2, 3, 4, 5, 6, 7, 8, 9] _ _
  refine DL.qu 69 (.agg #[.int .i64 a0_0, .int .i64 a0_1, .int .i64 a0_2, .int .i64 a0_3]) rfl (f_loadA (j := 7) ty_a26 ty_s26 rfl rfl rfl rfl) ?_
  refine DL.qu 70 (.agg #[.int .i64 a1_0, .int .i64 a1_1, .int .i64 a1_2, .int .i64 a1_3]) rfl (f_loadA (j := 6) ty_a26 ty_s26 rfl rfl rfl rfl) ?_
  refine DL.pu 71 (.int .i64 a4) rfl (p_move rfl rfl) ?_
  obtain ⟨⟨t27_0_0, t27_0_1, t27_0_2, t27_0_3, t27_1⟩, h28, h29⟩ := bind_some h25
  refine DL.qu 72 (.tuple #[.agg #[.int .i64 t27_0_0, .int .i64 t27_0_1, .int .i64 t27_0_2, .int .i64 t27_0_3], .int .i64 t27_1]) rfl (f_call rfl rfl (args_val (vs := [.agg #[.int .i64 a0_0, .int .i64 a0_1, .int .i64 a0_2, .int .i64 a0_3], .agg #[.int .i64 a1_0, .int .i64 a1_1, .int .i64 a1_2, .int .i64 a1_3], .int .i64 a4]) rfl) (fun w => enter13 _ w) (fun w => ref21_Unwrapped.val h28 w)) ?_
  refine DL.pu 68 (.tuple #[.agg #[.int .i64 t27_0_0, .int .i64 t27_0_1, .int .i64 t27_0_2, .int .i64 t27_0_3], .int .i64 t27_1]) rfl (p_move rfl rfl) ?_
  refine DL.pu 73 (.agg #[.int .i64 t27_0_0, .int .i64 t27_0_1, .int .i64 t27_0_2, .int .i64 t27_0_3]) rfl (p_extract rfl rfl rfl) ?_
  refine DL.pu 74 (.int .i64 t27_1) rfl (p_extract rfl rfl rfl) ?_
  refine DL.new (ob := .cells (#[.int .i64 0, .int .i64 0, .int .i64 0, .int .i64 0]) 26) (mk := fun b => ptr b 0) (i := 7) rfl (Wn.none rfl) rfl rfl rfl (f_alloc ty_z26 rfl) ?_
  intro b30 hb30
  refine DL.put (H' := [(some b30, .cells (#[.int .i64 t27_0_0, .int .i64 t27_0_1, .int .i64 t27_0_2, .int .i64 t27_0_3]) 26 (0, 0)), (some b26, .cells (#[.int .i64 t23_0_0, .int .i64 t23_0_1, .int .i64 t23_0_2, .int .i64 t23_0_3]) 26 (0, 0)), (some b22, .cells (#[.int .i64 t19_0_0, .int .i64 t19_0_1, .int .i64 t19_0_2, .int .i64 t19_0_3]) 26 (0, 0)), (some b18, .cells (#[.int .i64 t15_0_0, .int .i64 t15_0_1, .int .i64 t15_0_2, .int .i64 t15_0_3]) 26 (0, 0)), (some b14, .cells (#[.int .i64 t11_0_0, .int .i64 t11_0_1, .int .i64 t11_0_2, .int .i64 t11_0_3]) 26 (0, 0)), (some b10, .cells (#[.int .i64 t7_0_0, .int .i64 t7_0_1, .int .i64 t7_0_2, .int .i64 t7_0_3]) 26 (0, 0)), (some b6, .cells (#[.int .i64 t3_0_0, .int .i64 t3_0_1, .int .i64 t3_0_2, .int .i64 t3_0_3]) 26 (0, 0)), (some b2, .cells (#[.int .i64 a1_0, .int .i64 a1_1, .int .i64 a1_2, .int .i64 a1_3]) 26 (0, 0)), (some b1, .cells (#[.int .i64 a0_0, .int .i64 a0_1, .int .i64 a0_2, .int .i64 a0_3]) 26 (0, 0))]) (i := 8) rfl (Wn.none rfl) rfl rfl (f_storeA (j := 0) ty_s26 rfl rfl rfl (by simp [OneCell]) rfl rfl rfl) (keep_none rfl) ?_
  refine DL.pu 24 (.int .i64 t27_1) rfl (p_assign rfl rfl) ?_
  refine DL.nil ?_
  refine TT.seq (x := sub [1, 1, 1, 1, 1, 1, 1, 1, 0] B3) (y := sub [1, 1, 1, 1, 1, 1, 1, 1, 1] B3) ?_
  refine TT.region (id := 8) (n := 9) (ops := (opsOf (sub [1, 1, 1, 1, 1, 1, 1, 1, 0] B3))) [(.quiet, none), (.pure, none), (.quiet, none), (.pure, none), (.pure, none), (.pure, none), (.alloc, none), (.store, none), (.pure, none)] rfl ?_
  show DL _ _ _ _ _ _ _ _ _ _ [0, 1, 2, 3, 4, 5, 6, 7, 8] _ _
  refine DL.qu 76 (.agg #[.int .i64 a0_0, .int .i64 a0_1, .int .i64 a0_2, .int .i64 a0_3]) rfl (f_loadA (j := 8) ty_a26 ty_s26 rfl rfl rfl rfl) ?_
  refine DL.pu 77 (.int .i64 a4) rfl (p_move rfl rfl) ?_
  obtain ⟨⟨t31_0_0, t31_0_1, t31_0_2, t31_0_3, t31_1⟩, h32, h33⟩ := bind_some h29
  refine DL.qu 78 (.tuple #[.agg #[.int .i64 t31_0_0, .int .i64 t31_0_1, .int .i64 t31_0_2, .int .i64 t31_0_3], .int .i64 t31_1]) rfl (f_call rfl rfl (args_val (vs := [.agg #[.int .i64 a0_0, .int .i64 a0_1, .int .i64 a0_2, .int .i64 a0_3], .int .i64 a4]) rfl) (fun w => enter14 _ w) (fun w => ref21_Lower.val h32 w)) ?_
  refine DL.pu 75 (.tuple #[.agg #[.int .i64 t31_0_0, .int .i64 t31_0_1, .int .i64 t31_0_2, .int .i64 t31_0_3], .int .i64 t31_1]) rfl (p_move rfl rfl) ?_
  refine DL.pu 79 (.agg #[.int .i64 t31_0_0, .int .i64 t31_0_1, .int .i64 t31_0_2, .int .i64 t31_0_3]) rfl (p_extract rfl rfl rfl) ?_
  refine DL.pu 80 (.int .i64 t31_1) rfl (p_extract rfl rfl rfl) ?_
  refine DL.new (ob := .cells (#[.int .i64 0, .int .i64 0, .int .i64 0, .int .i64 0]) 26) (mk := fun b => ptr b 0) (i := 6) rfl (Wn.none rfl) rfl rfl rfl (f_alloc ty_z26 rfl) ?_
  intro b34 hb34
  refine DL.put (H' := [(some b34, .cells (#[.int .i64 t31_0_0, .int .i64 t31_0_1, .int .i64 t31_0_2, .int .i64 t31_0_3]) 26 (0, 0)), (some b30, .cells (#[.int .i64 t27_0_0, .int .i64 t27_0_1, .int .i64 t27_0_2, .int .i64 t27_0_3]) 26 (0, 0)), (some b26, .cells (#[.int .i64 t23_0_0, .int .i64 t23_0_1, .int .i64 t23_0_2, .int .i64 t23_0_3]) 26 (0, 0)), (some b22, .cells (#[.int .i64 t19_0_0, .int .i64 t19_0_1, .int .i64 t19_0_2, .int .i64 t19_0_3]) 26 (0, 0)), (some b18, .cells (#[.int .i64 t15_0_0, .int .i64 t15_0_1, .int .i64 t15_0_2, .int .i64 t15_0_3]) 26 (0, 0)), (some b14, .cells (#[.int .i64 t11_0_0, .int .i64 t11_0_1, .int .i64 t11_0_2, .int .i64 t11_0_3]) 26 (0, 0)), (some b10, .cells (#[.int .i64 t7_0_0, .int .i64 t7_0_1, .int .i64 t7_0_2, .int .i64 t7_0_3]) 26 (0, 0)), (some b6, .cells (#[.int .i64 t3_0_0, .int .i64 t3_0_1, .int .i64 t3_0_2, .int .i64 t3_0_3]) 26 (0, 0)), (some b2, .cells (#[.int .i64 a1_0, .int .i64 a1_1, .int .i64 a1_2, .int .i64 a1_3]) 26 (0, 0)), (some b1, .cells (#[.int .i64 a0_0, .int .i64 a0_1, .int .i64 a0_2, .int .i64 a0_3]) 26 (0, 0))]) (i := 7) rfl (Wn.none rfl) rfl rfl (f_storeA (j := 0) ty_s26 rfl rfl rfl (by simp [OneCell]) rfl rfl rfl) (keep_none rfl) ?_
  refine DL.pu 26 (.int .i64 t31_1) rfl (p_assign rfl rfl) ?_
  refine DL.nil ?_
  refine TT.seq (x := sub [1, 1, 1, 1, 1, 1, 1, 1, 1, 0] B3) (y := sub [1, 1, 1, 1, 1, 1, 1, 1, 1, 1] B3) ?_
  refine TT.region (id := 9) (n := 46) (ops := (opsOf (sub [1, 1, 1, 1, 1, 1, 1, 1, 1, 0] B3))) [(.quiet, none), (.quiet, none), (.pure, none), (.pure, none), (.quiet, none), (.quiet, none), (.pure, none), (.pure, none), (.pure, none), (.quiet, none), (.quiet, none), (.pure, none), (.pure, none), (.pure, none), (.quiet, none), (.quiet, none), (.pure, none), (.pure, none), (.pure, none), (.pure, none), (.quiet, none), (.pure, none), (.pure, none), (.pure, none), (.pure, none), (.pure, none), (.quiet, none), (.pure, none), (.pure, none), (.pure, none), (.pure, none), (.pure, none), (.quiet, none), (.pure, none), (.pure, none), (.pure, none), (.pure, none), (.pure, none), (.quiet, none), (.pure, none), (.pure, none), (.pure, none), (.pure, none), (.quiet, none), (.pure, none), (.pure, none)] rfl ?_
  show DL _ _ _ _ _ _ _ _ _ _ [0, 1, 2, 3, 4, 5, 6, 7, 8, 9, 10, 11, 12, 13, 14, 15, 16, 17, 18, 19, 20, 21, 22, 23, 24, 25, 26, 27, 28, 29, 30, 31, 32, 33, 34, 35, 36, 37, 38, 39, 40, 41, 42, 43, 44, 45] _ _
  refine DL.qu 81 (.agg #[.int .i64 t3_0_0, .int .i64 t3_0_1, .int .i64 t3_0_2, .int .i64 t3_0_3]) rfl (f_loadA (j := 7) ty_a26 ty_s26 rfl rfl rfl rfl) ?_
  refine DL.qu 82 (.agg #[.int .i64 t19_0_0, .int .i64 t19_0_1, .int .i64 t19_0_2, .int .i64 t19_0_3]) rfl (f_loadA (j := 3) ty_a26 ty_s26 rfl rfl rfl rfl) ?_
  obtain ⟨t35, e36, h37⟩ := nm_some h33
  refine DL.pu 83 (.bool t35) rfl (by rw [e36]; exact p_eqAgg ty_g26 (fun w => eqs26 (d := 9998) t3_0_0 t3_0_1 t3_0_2 t3_0_3 t19_0_0 t19_0_1 t19_0_2 t19_0_3 w) rfl rfl rfl) ?_
  refine DL.pu 84 (.bool t35) rfl (p_move rfl rfl) ?_
  obtain ⟨q38, h39, h40⟩ := bind_some h37
  refine DL.cut [(12, .int .i64 t3_1), (14, .int .i64 t7_1), (15, ptr b14 0), (16, .int .i64 t11_1), (17, ptr b18 0), (18, .int .i64 t15_1), (20, .int .i64 t19_1), (22, .int .i64 t23_1), (23, ptr b30 0), (24, .int .i64 t27_1), (25, ptr b34 0), (26, .int .i64 t31_1), (88, .bool q38)] [8, 9, 10, 11, 12, 13, 14, 15, 16, 17, 18, 19, 20, 21, 22, 23, 24, 25, 26, 27, 28, 29, 30, 31, 32, 33, 34, 35, 36, 37, 38, 39, 40, 41, 42, 43, 44, 45] ?_ (fun J41 => ?_)
  · refine DL.pu 89 (.bool q38) rfl (p_move rfl rfl) ?_
    obtain ⟨q48, h49, h50⟩ := bind_some h40
    refine DL.cut [(12, .int .i64 t3_1), (14, .int .i64 t7_1), (16, .int .i64 t11_1), (17, ptr b18 0), (18, .int .i64 t15_1), (20, .int .i64 t19_1), (22, .int .i64 t23_1), (24, .int .i64 t27_1), (25, ptr b34 0), (26, .int .i64 t31_1), (93, .bool q48)] [13, 14, 15, 16, 17, 18, 19, 20, 21, 22, 23, 24, 25, 26, 27, 28, 29, 30, 31, 32, 33, 34, 35, 36, 37, 38, 39, 40, 41, 42, 43, 44, 45] ?_ (fun J51 => ?_)
    · refine DL.pu 94 (.bool q48) rfl (p_move rfl rfl) ?_
      obtain ⟨q58, h59, h60⟩ := bind_some h50
      refine DL.cut [(12, .int .i64 t3_1), (14, .int .i64 t7_1), (16, .int .i64 t11_1), (18, .int .i64 t15_1), (20, .int .i64 t19_1), (22, .int .i64 t23_1), (24, .int .i64 t27_1), (26, .int .i64 t31_1), (98, .bool q58)] [18, 19, 20, 21, 22, 23, 24, 25, 26, 27, 28, 29, 30, 31, 32, 33, 34, 35, 36, 37, 38, 39, 40, 41, 42, 43, 44, 45] ?_ (fun J61 => ?_)
      · refine DL.pu 99 (.bool q58) rfl (p_move rfl rfl) ?_
        obtain ⟨q68, h69, h70⟩ := bind_some h60
        refine DL.cut [(14, .int .i64 t7_1), (16, .int .i64 t11_1), (18, .int .i64 t15_1), (22, .int .i64 t23_1), (24, .int .i64 t27_1), (26, .int .i64 t31_1), (104, .bool q68)] [24, 25, 26, 27, 28, 29, 30, 31, 32, 33, 34, 35, 36, 37, 38, 39, 40, 41, 42, 43, 44, 45] ?_ (fun J71 => ?_)
        · refine DL.pu 105 (.bool q68) rfl (p_move rfl rfl) ?_
          obtain ⟨q78, h79, h80⟩ := bind_some h70
          refine DL.cut [(16, .int .i64 t11_1), (18, .int .i64 t15_1), (24, .int .i64 t27_1), (26, .int .i64 t31_1), (110, .bool q78)] [30, 31, 32, 33, 34, 35, 36, 37, 38, 39, 40, 41, 42, 43, 44, 45] ?_ (fun J81 => ?_)
          · refine DL.pu 111 (.bool q78) rfl (p_move rfl rfl) ?_
            obtain ⟨q88, h89, h90⟩ := bind_some h80
            refine DL.cut [(18, .int .i64 t15_1), (26, .int .i64 t31_1), (116, .bool q88)] [36, 37, 38, 39, 40, 41, 42, 43, 44, 45] ?_ (fun J91 => ?_)
            · refine DL.pu 117 (.bool q88) rfl (p_move rfl rfl) ?_
              obtain ⟨q98, h99, h100⟩ := bind_some h90
              refine DL.cut [(122, .bool q98)] [42, 43, 44, 45] ?_ (fun J101 => ?_)
              · refine DL.pu 123 (.bool q98) rfl (p_move rfl rfl) ?_
                obtain ⟨q108, h109, h110⟩ := bind_some h100
                refine DL.cut [(125, .bool q108)] [45] ?_ (fun J111 => ?_)
                · refine DL.pu 10 (.bool q108) rfl (p_assign rfl rfl) ?_
                  refine DL.nil ?_
                  obtain rfl := Option.some.inj h110
                  exact ret1 Try.func3 rfl (ResV.tmp rfl) rfl
                · by_cases c112 : q98 = true
                  · have h113 := ite_true c112 h109
                    obtain ⟨t114, h115, h116⟩ := bind_some h113
                    refine DL.quiet (v := .bool t114) rfl (Wn.yes c112 rfl rfl rfl rfl) rfl rfl rfl (f_call rfl rfl (args_val (vs := []) rfl) (fun w => enter16 _ w) (fun w => law21_known.val h115 w)) ?_
                    refine DL.pu 125 (.bool t114) rfl (p_pick_t c112 rfl rfl rfl) ?_
                    obtain rfl := Option.some.inj h116
                    exact DL.weak J111 (Sub.cons rfl (Sub.nil _))
                  · replace c112 := Bool.eq_false_iff.mpr c112
                    have h117 := ite_false c112 h109
                    refine DL.not (i := 43) rfl (Wn.no c112 rfl rfl rfl rfl) rfl rfl ?_
                    refine DL.pu 125 (.bool false) rfl (p_pick_f c112 rfl rfl rfl) ?_
                    obtain rfl := Option.some.inj h117
                    exact DL.weak J111 (Sub.cons rfl (Sub.nil _))
              · by_cases c102 : q88 = true
                · have h103 := ite_true c102 h99
                  refine DL.pure (v := .int .i64 t15_1) rfl (Wn.yes c102 rfl rfl rfl rfl) rfl rfl rfl (p_move rfl rfl) ?_
                  obtain ⟨t104, h105, h106⟩ := bind_some h103
                  refine DL.quiet (v := .int .i64 t104) rfl (Wn.yes c102 rfl rfl rfl rfl) rfl rfl rfl (f_call rfl rfl (args_val (vs := [.int .i64 t15_1]) rfl) (fun w => enter15 _ w) (fun w => law21_num.val h105 w)) ?_
                  refine DL.pure (v := .int .i64 t31_1) rfl (Wn.yes c102 rfl rfl rfl rfl) rfl rfl rfl (p_move rfl rfl) ?_
                  refine DL.pure (v := .bool (t104 == t31_1)) rfl (Wn.yes c102 rfl rfl rfl rfl) rfl rfl rfl (p_eql rfl rfl rfl) ?_
                  refine DL.pu 122 (.bool (t104 == t31_1)) rfl (p_pick_t c102 rfl rfl rfl) ?_
                  obtain rfl := Option.some.inj h106
                  exact DL.weak J101 (Sub.cons rfl (Sub.nil _))
                · replace c102 := Bool.eq_false_iff.mpr c102
                  have h107 := ite_false c102 h99
                  refine DL.not (i := 37) rfl (Wn.no c102 rfl rfl rfl rfl) rfl rfl ?_
                  refine DL.not (i := 38) rfl (Wn.no c102 rfl rfl rfl rfl) rfl rfl ?_
                  refine DL.not (i := 39) rfl (Wn.no c102 rfl rfl rfl rfl) rfl rfl ?_
                  refine DL.not (i := 40) rfl (Wn.no c102 rfl rfl rfl rfl) rfl rfl ?_
                  refine DL.pu 122 (.bool false) rfl (p_pick_f c102 rfl rfl rfl) ?_
                  obtain rfl := Option.some.inj h107
                  exact DL.weak J101 (Sub.cons rfl (Sub.nil _))
            · by_cases c92 : q78 = true
              · have h93 := ite_true c92 h89
                refine DL.pure (v := .int .i64 t11_1) rfl (Wn.yes c92 rfl rfl rfl rfl) rfl rfl rfl (p_move rfl rfl) ?_
                obtain ⟨t94, h95, h96⟩ := bind_some h93
                refine DL.quiet (v := .int .i64 t94) rfl (Wn.yes c92 rfl rfl rfl rfl) rfl rfl rfl (f_call rfl rfl (args_val (vs := [.int .i64 t11_1]) rfl) (fun w => enter15 _ w) (fun w => law21_num.val h95 w)) ?_
                refine DL.pure (v := .int .i64 t27_1) rfl (Wn.yes c92 rfl rfl rfl rfl) rfl rfl rfl (p_move rfl rfl) ?_
                refine DL.pure (v := .bool (t94 == t27_1)) rfl (Wn.yes c92 rfl rfl rfl rfl) rfl rfl rfl (p_eql rfl rfl rfl) ?_
                refine DL.pu 116 (.bool (t94 == t27_1)) rfl (p_pick_t c92 rfl rfl rfl) ?_
                obtain rfl := Option.some.inj h96
                exact DL.weak J91 (Sub.cons rfl (Sub.cons rfl (Sub.cons rfl (Sub.nil _))))
              · replace c92 := Bool.eq_false_iff.mpr c92
                have h97 := ite_false c92 h89
                refine DL.not (i := 31) rfl (Wn.no c92 rfl rfl rfl rfl) rfl rfl ?_
                refine DL.not (i := 32) rfl (Wn.no c92 rfl rfl rfl rfl) rfl rfl ?_
                refine DL.not (i := 33) rfl (Wn.no c92 rfl rfl rfl rfl) rfl rfl ?_
                refine DL.not (i := 34) rfl (Wn.no c92 rfl rfl rfl rfl) rfl rfl ?_
                refine DL.pu 116 (.bool false) rfl (p_pick_f c92 rfl rfl rfl) ?_
                obtain rfl := Option.some.inj h97
                exact DL.weak J91 (Sub.cons rfl (Sub.cons rfl (Sub.cons rfl (Sub.nil _))))
          · by_cases c82 : q68 = true
            · have h83 := ite_true c82 h79
              refine DL.pure (v := .int .i64 t7_1) rfl (Wn.yes c82 rfl rfl rfl rfl) rfl rfl rfl (p_move rfl rfl) ?_
              obtain ⟨t84, h85, h86⟩ := bind_some h83
              refine DL.quiet (v := .int .i64 t84) rfl (Wn.yes c82 rfl rfl rfl rfl) rfl rfl rfl (f_call rfl rfl (args_val (vs := [.int .i64 t7_1]) rfl) (fun w => enter15 _ w) (fun w => law21_num.val h85 w)) ?_
              refine DL.pure (v := .int .i64 t23_1) rfl (Wn.yes c82 rfl rfl rfl rfl) rfl rfl rfl (p_move rfl rfl) ?_
              refine DL.pure (v := .bool (t84 == t23_1)) rfl (Wn.yes c82 rfl rfl rfl rfl) rfl rfl rfl (p_eql rfl rfl rfl) ?_
              refine DL.pu 110 (.bool (t84 == t23_1)) rfl (p_pick_t c82 rfl rfl rfl) ?_
              obtain rfl := Option.some.inj h86
              exact DL.weak J81 (Sub.cons rfl (Sub.cons rfl (Sub.cons rfl (Sub.cons rfl (Sub.cons rfl (Sub.nil _))))))
            · replace c82 := Bool.eq_false_iff.mpr c82
              have h87 := ite_false c82 h79
              refine DL.not (i := 25) rfl (Wn.no c82 rfl rfl rfl rfl) rfl rfl ?_
              refine DL.not (i := 26) rfl (Wn.no c82 rfl rfl rfl rfl) rfl rfl ?_
              refine DL.not (i := 27) rfl (Wn.no c82 rfl rfl rfl rfl) rfl rfl ?_
              refine DL.not (i := 28) rfl (Wn.no c82 rfl rfl rfl rfl) rfl rfl ?_
              refine DL.pu 110 (.bool false) rfl (p_pick_f c82 rfl rfl rfl) ?_
              obtain rfl := Option.some.inj h87
              exact DL.weak J81 (Sub.cons rfl (Sub.cons rfl (Sub.cons rfl (Sub.cons rfl (Sub.cons rfl (Sub.nil _))))))
        · by_cases c72 : q58 = true
          · have h73 := ite_true c72 h69
            refine DL.pure (v := .int .i64 t3_1) rfl (Wn.yes c72 rfl rfl rfl rfl) rfl rfl rfl (p_move rfl rfl) ?_
            obtain ⟨t74, h75, h76⟩ := bind_some h73
            refine DL.quiet (v := .int .i64 t74) rfl (Wn.yes c72 rfl rfl rfl rfl) rfl rfl rfl (f_call rfl rfl (args_val (vs := [.int .i64 t3_1]) rfl) (fun w => enter15 _ w) (fun w => law21_num.val h75 w)) ?_
            refine DL.pure (v := .int .i64 t19_1) rfl (Wn.yes c72 rfl rfl rfl rfl) rfl rfl rfl (p_move rfl rfl) ?_
            refine DL.pure (v := .bool (t74 == t19_1)) rfl (Wn.yes c72 rfl rfl rfl rfl) rfl rfl rfl (p_eql rfl rfl rfl) ?_
            refine DL.pu 104 (.bool (t74 == t19_1)) rfl (p_pick_t c72 rfl rfl rfl) ?_
            obtain rfl := Option.some.inj h76
            exact DL.weak J71 (Sub.cons rfl (Sub.cons rfl (Sub.cons rfl (Sub.cons rfl (Sub.cons rfl (Sub.cons rfl (Sub.cons rfl (Sub.nil _))))))))
          · replace c72 := Bool.eq_false_iff.mpr c72
            have h77 := ite_false c72 h69
            refine DL.not (i := 19) rfl (Wn.no c72 rfl rfl rfl rfl) rfl rfl ?_
            refine DL.not (i := 20) rfl (Wn.no c72 rfl rfl rfl rfl) rfl rfl ?_
            refine DL.not (i := 21) rfl (Wn.no c72 rfl rfl rfl rfl) rfl rfl ?_
            refine DL.not (i := 22) rfl (Wn.no c72 rfl rfl rfl rfl) rfl rfl ?_
            refine DL.pu 104 (.bool false) rfl (p_pick_f c72 rfl rfl rfl) ?_
            obtain rfl := Option.some.inj h77
            exact DL.weak J71 (Sub.cons rfl (Sub.cons rfl (Sub.cons rfl (Sub.cons rfl (Sub.cons rfl (Sub.cons rfl (Sub.cons rfl (Sub.nil _))))))))
      · by_cases c62 : q48 = true
        · have h63 := ite_true c62 h59
          refine DL.quiet (v := .agg #[.int .i64 t15_0_0, .int .i64 t15_0_1, .int .i64 t15_0_2, .int .i64 t15_0_3]) rfl (Wn.yes c62 rfl rfl rfl rfl) rfl rfl rfl (f_loadA (j := 4) ty_a26 ty_s26 rfl rfl rfl rfl) ?_
          refine DL.quiet (v := .agg #[.int .i64 t31_0_0, .int .i64 t31_0_1, .int .i64 t31_0_2, .int .i64 t31_0_3]) rfl (Wn.yes c62 rfl rfl rfl rfl) rfl rfl rfl (f_loadA (j := 0) ty_a26 ty_s26 rfl rfl rfl rfl) ?_
          obtain ⟨t64, e65, h66⟩ := nm_some h63
          refine DL.pure (v := .bool t64) rfl (Wn.yes c62 rfl rfl rfl rfl) rfl rfl rfl (by rw [e65]; exact p_eqAgg ty_g26 (fun w => eqs26 (d := 9998) t15_0_0 t15_0_1 t15_0_2 t15_0_3 t31_0_0 t31_0_1 t31_0_2 t31_0_3 w) rfl rfl rfl) ?_
          refine DL.pu 98 (.bool t64) rfl (p_pick_t c62 rfl rfl rfl) ?_
          obtain rfl := Option.some.inj h66
          exact DL.weak J61 (Sub.cons rfl (Sub.cons rfl (Sub.cons rfl (Sub.cons rfl (Sub.cons rfl (Sub.cons rfl (Sub.cons rfl (Sub.cons rfl (Sub.cons rfl (Sub.nil _))))))))))
        · replace c62 := Bool.eq_false_iff.mpr c62
          have h67 := ite_false c62 h59
          refine DL.not (i := 14) rfl (Wn.no c62 rfl rfl rfl rfl) rfl rfl ?_
          refine DL.not (i := 15) rfl (Wn.no c62 rfl rfl rfl rfl) rfl rfl ?_
          refine DL.not (i := 16) rfl (Wn.no c62 rfl rfl rfl rfl) rfl rfl ?_
          refine DL.pu 98 (.bool false) rfl (p_pick_f c62 rfl rfl rfl) ?_
          obtain rfl := Option.some.inj h67
          exact DL.weak J61 (Sub.cons rfl (Sub.cons rfl (Sub.cons rfl (Sub.cons rfl (Sub.cons rfl (Sub.cons rfl (Sub.cons rfl (Sub.cons rfl (Sub.cons rfl (Sub.nil _))))))))))
    · by_cases c52 : q38 = true
      · have h53 := ite_true c52 h49
        refine DL.quiet (v := .agg #[.int .i64 t11_0_0, .int .i64 t11_0_1, .int .i64 t11_0_2, .int .i64 t11_0_3]) rfl (Wn.yes c52 rfl rfl rfl rfl) rfl rfl rfl (f_loadA (j := 5) ty_a26 ty_s26 rfl rfl rfl rfl) ?_
        refine DL.quiet (v := .agg #[.int .i64 t27_0_0, .int .i64 t27_0_1, .int .i64 t27_0_2, .int .i64 t27_0_3]) rfl (Wn.yes c52 rfl rfl rfl rfl) rfl rfl rfl (f_loadA (j := 1) ty_a26 ty_s26 rfl rfl rfl rfl) ?_
        obtain ⟨t54, e55, h56⟩ := nm_some h53
        refine DL.pure (v := .bool t54) rfl (Wn.yes c52 rfl rfl rfl rfl) rfl rfl rfl (by rw [e55]; exact p_eqAgg ty_g26 (fun w => eqs26 (d := 9998) t11_0_0 t11_0_1 t11_0_2 t11_0_3 t27_0_0 t27_0_1 t27_0_2 t27_0_3 w) rfl rfl rfl) ?_
        refine DL.pu 93 (.bool t54) rfl (p_pick_t c52 rfl rfl rfl) ?_
        obtain rfl := Option.some.inj h56
        exact DL.weak J51 (Sub.cons rfl (Sub.cons rfl (Sub.cons rfl (Sub.cons rfl (Sub.cons rfl (Sub.cons rfl (Sub.cons rfl (Sub.cons rfl (Sub.cons rfl (Sub.cons rfl (Sub.cons rfl (Sub.nil _))))))))))))
      · replace c52 := Bool.eq_false_iff.mpr c52
        have h57 := ite_false c52 h49
        refine DL.not (i := 9) rfl (Wn.no c52 rfl rfl rfl rfl) rfl rfl ?_
        refine DL.not (i := 10) rfl (Wn.no c52 rfl rfl rfl rfl) rfl rfl ?_
        refine DL.not (i := 11) rfl (Wn.no c52 rfl rfl rfl rfl) rfl rfl ?_
        refine DL.pu 93 (.bool false) rfl (p_pick_f c52 rfl rfl rfl) ?_
        obtain rfl := Option.some.inj h57
        exact DL.weak J51 (Sub.cons rfl (Sub.cons rfl (Sub.cons rfl (Sub.cons rfl (Sub.cons rfl (Sub.cons rfl (Sub.cons rfl (Sub.cons rfl (Sub.cons rfl (Sub.cons rfl (Sub.cons rfl (Sub.nil _))))))))))))
  · by_cases c42 : t35 = true
    · have h43 := ite_true c42 h39
      refine DL.quiet (v := .agg #[.int .i64 t7_0_0, .int .i64 t7_0_1, .int .i64 t7_0_2, .int .i64 t7_0_3]) rfl (Wn.yes c42 rfl rfl rfl rfl) rfl rfl rfl (f_loadA (j := 6) ty_a26 ty_s26 rfl rfl rfl rfl) ?_
      refine DL.quiet (v := .agg #[.int .i64 t23_0_0, .int .i64 t23_0_1, .int .i64 t23_0_2, .int .i64 t23_0_3]) rfl (Wn.yes c42 rfl rfl rfl rfl) rfl rfl rfl (f_loadA (j := 2) ty_a26 ty_s26 rfl rfl rfl rfl) ?_
      obtain ⟨t44, e45, h46⟩ := nm_some h43
      refine DL.pure (v := .bool t44) rfl (Wn.yes c42 rfl rfl rfl rfl) rfl rfl rfl (by rw [e45]; exact p_eqAgg ty_g26 (fun w => eqs26 (d := 9998) t7_0_0 t7_0_1 t7_0_2 t7_0_3 t23_0_0 t23_0_1 t23_0_2 t23_0_3 w) rfl rfl rfl) ?_
      refine DL.pu 88 (.bool t44) rfl (p_pick_t c42 rfl rfl rfl) ?_
      obtain rfl := Option.some.inj h46
      exact DL.weak J41 (Sub.cons rfl (Sub.cons rfl (Sub.cons rfl (Sub.cons rfl (Sub.cons rfl (Sub.cons rfl (Sub.cons rfl (Sub.cons rfl (Sub.cons rfl (Sub.cons rfl (Sub.cons rfl (Sub.cons rfl (Sub.cons rfl (Sub.nil _))))))))))))))
    · replace c42 := Bool.eq_false_iff.mpr c42
      have h47 := ite_false c42 h39
      refine DL.not (i := 4) rfl (Wn.no c42 rfl rfl rfl rfl) rfl rfl ?_
      refine DL.not (i := 5) rfl (Wn.no c42 rfl rfl rfl rfl) rfl rfl ?_
      refine DL.not (i := 6) rfl (Wn.no c42 rfl rfl rfl rfl) rfl rfl ?_
      refine DL.pu 88 (.bool false) rfl (p_pick_f c42 rfl rfl rfl) ?_
      obtain rfl := Option.some.inj h47
      exact DL.weak J41 (Sub.cons rfl (Sub.cons rfl (Sub.cons rfl (Sub.cons rfl (Sub.cons rfl (Sub.cons rfl (Sub.cons rfl (Sub.cons rfl (Sub.cons rfl (Sub.cons rfl (Sub.cons rfl (Sub.cons rfl (Sub.cons rfl (Sub.nil _))))))))))))))
theorem law21_PolicyChildren.val {a0_0 : Int} {a0_1 : Int} {a0_2 : Int} {a0_3 : Int} {a1_0 : Int} {a1_1 : Int} {a1_2 : Int} {a1_3 : Int} {a2 : Int} {a3 : Int} {a4 : Int} {r : Bool} (h : law21_PolicyChildren.f a0_0 a0_1 a0_2 a0_3 a1_0 a1_1 a1_2 a1_3 a2 a3 a4 = some r) (w : World) : Calls Try.prog 3 #[.agg #[.int .i64 a0_0, .int .i64 a0_1, .int .i64 a0_2, .int .i64 a0_3], .agg #[.int .i64 a1_0, .int .i64 a1_1, .int .i64 a1_2, .int .i64 a1_3], .int .i64 a2, .int .i64 a3, .int .i64 a4] w fun e w' => e = .returned (.bool r) ∧ Below w.heap.size w w' :=
  calls_value (law21_PolicyChildren.ok h w)

/-! ### escutcheon/policy.told: function 36 -/
noncomputable def B36 : Code := bodyOf Try.f36
def policy_told.f (a0 : Bool) : Option (Int) := if a0 = true then (some 0) else (some 12)
set_option maxRecDepth 20000 in
theorem policy_told.ok {a0 : Bool} {r : Int} (h : policy_told.f a0 = some r) (w : World) : Calls Try.prog 36 #[.bool a0] w (Post (fun u => u = .int .i64 r) w) := by
  unfold policy_told.f at h
  refine calls_of_TT (N := 4) (S := [(0, .bool a0)]) (c := B36) Try.func36 rfl rfl rfl (by simp) ?_
  show TT _ _ _ _ _ _ [.code (sub [] B36)] _ _
  refine TT.seq (x := sub [0] B36) (y := sub [1] B36) ?_
  refine TT.region (id := 0) (n := 1) (ops := (opsOf (sub [0] B36))) [(.pure, none)] rfl ?_
  show DL _ _ _ _ _ _ _ _ _ _ [0] _ _
  refine DL.pu 2 (.int .i64 0) rfl (p_assign rfl rfl) ?_
  refine DL.nil ?_
  refine TT.seq (x := sub [1, 0] B36) (y := sub [1, 1] B36) ?_
  refine TT.seq (x := sub [1, 0, 0] B36) (y := sub [1, 0, 1] B36) ?_
  refine TT.region (id := 1) (n := 1) (ops := (opsOf (sub [1, 0, 0] B36))) [(.pure, none)] rfl ?_
  show DL _ _ _ _ _ _ _ _ _ _ [0] _ _
  refine DL.pu 3 (.bool a0) rfl (p_move rfl rfl) ?_
  refine DL.nil ?_
  by_cases c1 : a0 = true
  · have h2 := ite_true c1 h
    refine TT.cond_true (x := sub [1, 0, 1, 0] B36) (y := sub [1, 0, 1, 1] B36) rfl c1 ?_
    refine TT.seq (x := sub [1, 0, 1, 0, 0] B36) (y := sub [1, 0, 1, 0, 1] B36) ?_
    refine TT.region (id := 2) (n := 1) (ops := (opsOf (sub [1, 0, 1, 0, 0] B36))) [(.pure, none)] rfl ?_
    show DL _ _ _ _ _ _ _ _ _ _ [0] _ _
    refine DL.pu 2 (.int .i64 0) rfl (p_assign rfl rfl) ?_
    refine DL.nil ?_
    obtain rfl := Option.some.inj h2
    exact ret1 Try.func36 rfl (ResV.tmp rfl) rfl
  · replace c1 := Bool.eq_false_iff.mpr c1
    have h3 := ite_false c1 h
    refine TT.cond_false (x := sub [1, 0, 1, 0] B36) (y := sub [1, 0, 1, 1] B36) rfl c1 ?_
    refine TT.skip ?_
    refine TT.seq (x := sub [1, 1, 0] B36) (y := sub [1, 1, 1] B36) ?_
    refine TT.region (id := 3) (n := 1) (ops := (opsOf (sub [1, 1, 0] B36))) [(.pure, none)] rfl ?_
    show DL _ _ _ _ _ _ _ _ _ _ [0] _ _
    refine DL.pu 2 (.int .i64 12) rfl (p_assign rfl rfl) ?_
    refine DL.nil ?_
    obtain rfl := Option.some.inj h3
    exact ret1 Try.func36 rfl (ResV.tmp rfl) rfl
theorem policy_told.val {a0 : Bool} {r : Int} (h : policy_told.f a0 = some r) (w : World) : Calls Try.prog 36 #[.bool a0] w fun e w' => e = .returned (.int .i64 r) ∧ Below w.heap.size w w' :=
  calls_value (policy_told.ok h w)

/-! ### escutcheon/policy.Wraps: function 19 -/
noncomputable def B19 : Code := bodyOf Try.f19
def policy_Wraps.f (a0_0 : Int) (a0_1 : Int) (a0_2 : Int) (a0_3 : Int) (a1_0 : Int) (a1_1 : Int) (a1_2 : Int) (a1_3 : Int) : Option (Int) := (policy_MayCard.f a0_0 a0_1 a0_2 a0_3).bind fun t3 => (if (!t3) = true then (some true) else ((policy_MayCard.f a1_0 a1_1 a1_2 a1_3).bind fun t13 => some (!t13))).bind fun q6 => if q6 = true then (some 2) else ((if ((iand .i64 a0_2 8) != 0) = true then (some ((iand .i64 a1_2 2) != 0)) else (some false)).bind fun q19 => (if q19 = true then ((policy_Kept.f a1_0 a1_1 a1_2 a1_3).bind fun t32 => (if (!t32) = true then (some true) else ((policy_Kept.f a0_0 a0_1 a0_2 a0_3).bind fun t42 => some t42)).bind fun q35 => some q35) else (some false)).bind fun q26 => (policy_told.f q26).bind fun t46 => some t46)
set_option maxRecDepth 20000 in
theorem policy_Wraps.ok {a0_0 : Int} {a0_1 : Int} {a0_2 : Int} {a0_3 : Int} {a1_0 : Int} {a1_1 : Int} {a1_2 : Int} {a1_3 : Int} {r : Int} (h : policy_Wraps.f a0_0 a0_1 a0_2 a0_3 a1_0 a1_1 a1_2 a1_3 = some r) (w : World) : Calls Try.prog 19 #[.agg #[.int .i64 a0_0, .int .i64 a0_1, .int .i64 a0_2, .int .i64 a0_3], .agg #[.int .i64 a1_0, .int .i64 a1_1, .int .i64 a1_2, .int .i64 a1_3]] w (Post (fun u => u = .int .i64 r) w) := by
  unfold policy_Wraps.f at h
  refine calls_of_TT (N := 33) (S := [(0, .agg #[.int .i64 a0_0, .int .i64 a0_1, .int .i64 a0_2, .int .i64 a0_3]), (1, .agg #[.int .i64 a1_0, .int .i64 a1_1, .int .i64 a1_2, .int .i64 a1_3])]) (c := B19) Try.func19 rfl rfl rfl (by simp) ?_
  show TT _ _ _ _ _ _ [.code (sub [] B19)] _ _
  refine TT.seq (x := sub [0] B19) (y := sub [1] B19) ?_
  refine TT.region (id := 0) (n := 3) (ops := (opsOf (sub [0] B19))) [(.alloc, none), (.alloc, none), (.pure, none)] rfl ?_
  show DL _ _ _ _ _ _ _ _ _ _ [0, 1, 2] _ _
  refine DL.new (ob := .cells (#[.int .i64 a0_0, .int .i64 a0_1, .int .i64 a0_2, .int .i64 a0_3]) 26) (mk := fun b => ptr b 0) (i := 0) rfl (Wn.none rfl) rfl rfl rfl (f_box (v := .agg #[.int .i64 a0_0, .int .i64 a0_1, .int .i64 a0_2, .int .i64 a0_3]) rfl rfl) ?_
  intro b1 hb1
  refine DL.new (ob := .cells (#[.int .i64 a1_0, .int .i64 a1_1, .int .i64 a1_2, .int .i64 a1_3]) 26) (mk := fun b => ptr b 0) (i := 1) rfl (Wn.none rfl) rfl rfl rfl (f_box (v := .agg #[.int .i64 a1_0, .int .i64 a1_1, .int .i64 a1_2, .int .i64 a1_3]) rfl rfl) ?_
  intro b2 hb2
  refine DL.pu 4 (.int .i64 0) rfl (p_assign rfl rfl) ?_
  refine DL.nil ?_
  refine TT.seq (x := sub [1, 0] B19) (y := sub [1, 1] B19) ?_
  refine TT.seq (x := sub [1, 0, 0] B19) (y := sub [1, 0, 1] B19) ?_
  refine TT.region (id := 1) (n := 8) (ops := (opsOf (sub [1, 0, 0] B19))) [(.quiet, none), (.quiet, none), (.pure, none), (.pure, none), (.quiet, none), (.quiet, none), (.pure, none), (.pure, none)] rfl ?_
  show DL _ _ _ _ _ _ _ _ _ _ [0, 1, 2, 3, 4, 5, 6, 7] _ _
  refine DL.qu 5 (.agg #[.int .i64 a0_0, .int .i64 a0_1, .int .i64 a0_2, .int .i64 a0_3]) rfl (f_loadA (j := 1) ty_a26 ty_s26 rfl rfl rfl rfl) ?_
  obtain ⟨t3, h4, h5⟩ := bind_some h
  refine DL.qu 6 (.bool t3) rfl (f_call rfl rfl (args_val (vs := [.agg #[.int .i64 a0_0, .int .i64 a0_1, .int .i64 a0_2, .int .i64 a0_3]]) rfl) (fun w => enter22 _ w) (fun w => policy_MayCard.val h4 w)) ?_
  refine DL.pu 7 (.bool (!t3)) rfl (p_not rfl rfl) ?_
  refine DL.pu 8 (.bool (!t3)) rfl (p_move rfl rfl) ?_
  obtain ⟨q6, h7, h8⟩ := bind_some h5
  refine DL.cut [(2, ptr b1 0), (3, ptr b2 0), (12, .bool q6)] [] ?_ (fun J9 => ?_)
  · refine DL.nil ?_
    by_cases c16 : q6 = true
    · have h17 := ite_true c16 h8
      refine TT.cond_true (x := sub [1, 0, 1, 0] B19) (y := sub [1, 0, 1, 1] B19) rfl c16 ?_
      refine TT.seq (x := sub [1, 0, 1, 0, 0] B19) (y := sub [1, 0, 1, 0, 1] B19) ?_
      refine TT.region (id := 2) (n := 1) (ops := (opsOf (sub [1, 0, 1, 0, 0] B19))) [(.pure, none)] rfl ?_
      show DL _ _ _ _ _ _ _ _ _ _ [0] _ _
      refine DL.pu 4 (.int .i64 2) rfl (p_assign rfl rfl) ?_
      refine DL.nil ?_
      obtain rfl := Option.some.inj h17
      exact ret1 Try.func19 rfl (ResV.tmp rfl) rfl
    · replace c16 := Bool.eq_false_iff.mpr c16
      have h18 := ite_false c16 h8
      refine TT.cond_false (x := sub [1, 0, 1, 0] B19) (y := sub [1, 0, 1, 1] B19) rfl c16 ?_
      refine TT.skip ?_
      refine TT.seq (x := sub [1, 1, 0] B19) (y := sub [1, 1, 1] B19) ?_
      refine TT.region (id := 3) (n := 21) (ops := (opsOf (sub [1, 1, 0] B19))) [(.pure, none), (.quiet, none), (.pure, none), (.pure, none), (.pure, none), (.pure, none), (.quiet, none), (.pure, none), (.pure, none), (.pure, none), (.pure, none), (.quiet, none), (.quiet, none), (.pure, none), (.pure, none), (.quiet, none), (.quiet, none), (.pure, none), (.pure, none), (.quiet, none), (.pure, none)] rfl ?_
      show DL _ _ _ _ _ _ _ _ _ _ [0, 1, 2, 3, 4, 5, 6, 7, 8, 9, 10, 11, 12, 13, 14, 15, 16, 17, 18, 19, 20] _ _
      refine DL.pu 13 (ptr b1 2) rfl (p_fieldAddr ty_f26_2 rfl rfl) ?_
      refine DL.qu 14 (.int .i64 a0_2) rfl (f_load (j := 1) ty_a24 rfl rfl rfl rfl) ?_
      refine DL.pu 15 (.int .i64 (iand .i64 a0_2 8)) rfl (p_and rfl rfl rfl) ?_
      refine DL.pu 16 (.bool ((iand .i64 a0_2 8) != 0)) rfl (p_neq rfl rfl rfl) ?_
      refine DL.pu 17 (.bool ((iand .i64 a0_2 8) != 0)) rfl (p_move rfl rfl) ?_
      obtain ⟨q19, h20, h21⟩ := bind_some h18
      refine DL.cut [(2, ptr b1 0), (3, ptr b2 0), (22, .bool q19)] [10, 11, 12, 13, 14, 15, 16, 17, 18, 19, 20] ?_ (fun J22 => ?_)
      · refine DL.pu 23 (.bool q19) rfl (p_move rfl rfl) ?_
        obtain ⟨q26, h27, h28⟩ := bind_some h21
        refine DL.cut [(31, .bool q26)] [19, 20] ?_ (fun J29 => ?_)
        · obtain ⟨t46, h47, h48⟩ := bind_some h28
          refine DL.qu 32 (.int .i64 t46) rfl (f_call rfl rfl (args_val (vs := [.bool q26]) rfl) (fun w => enter36 _ w) (fun w => policy_told.val h47 w)) ?_
          refine DL.pu 4 (.int .i64 t46) rfl (p_assign rfl rfl) ?_
          refine DL.nil ?_
          obtain rfl := Option.some.inj h48
          exact ret1 Try.func19 rfl (ResV.tmp rfl) rfl
        · by_cases c30 : q19 = true
          · have h31 := ite_true c30 h27
            refine DL.quiet (v := .agg #[.int .i64 a1_0, .int .i64 a1_1, .int .i64 a1_2, .int .i64 a1_3]) rfl (Wn.yes c30 rfl rfl rfl rfl) rfl rfl rfl (f_loadA (j := 0) ty_a26 ty_s26 rfl rfl rfl rfl) ?_
            obtain ⟨t32, h33, h34⟩ := bind_some h31
            refine DL.quiet (v := .bool t32) rfl (Wn.yes c30 rfl rfl rfl rfl) rfl rfl rfl (f_call rfl rfl (args_val (vs := [.agg #[.int .i64 a1_0, .int .i64 a1_1, .int .i64 a1_2, .int .i64 a1_3]]) rfl) (fun w => enter21 _ w) (fun w => policy_Kept.val h33 w)) ?_
            refine DL.pure (v := .bool (!t32)) rfl (Wn.yes c30 rfl rfl rfl rfl) rfl rfl rfl (p_not rfl rfl) ?_
            refine DL.pure (v := .bool (!t32)) rfl (Wn.yes c30 rfl rfl rfl rfl) rfl rfl rfl (p_move rfl rfl) ?_
            obtain ⟨q35, h36, h37⟩ := bind_some h34
            refine DL.cut [(23, .bool q19), (30, .bool q35)] [18, 19, 20] ?_ (fun J38 => ?_)
            · refine DL.pu 31 (.bool q35) rfl (p_pick_t c30 rfl rfl rfl) ?_
              obtain rfl := Option.some.inj h37
              exact DL.weak J29 (Sub.cons rfl (Sub.nil _))
            · by_cases c39 : (!t32) = true
              · have h40 := ite_true c39 h36
                refine DL.not (i := 15) rfl (Wn.yes c39 rfl rfl rfl rfl) rfl rfl ?_
                refine DL.not (i := 16) rfl (Wn.yes c39 rfl rfl rfl rfl) rfl rfl ?_
                refine DL.pure (v := .bool true) rfl (Wn.yes c30 rfl rfl rfl rfl) rfl rfl rfl (p_pick_t c39 rfl rfl rfl) ?_
                obtain rfl := Option.some.inj h40
                exact DL.weak J38 (Sub.cons rfl (Sub.cons rfl (Sub.nil _)))
              · replace c39 := Bool.eq_false_iff.mpr c39
                have h41 := ite_false c39 h36
                refine DL.quiet (v := .agg #[.int .i64 a0_0, .int .i64 a0_1, .int .i64 a0_2, .int .i64 a0_3]) rfl (Wn.no c39 rfl rfl rfl rfl) rfl rfl rfl (f_loadA (j := 1) ty_a26 ty_s26 rfl rfl rfl rfl) ?_
                obtain ⟨t42, h43, h44⟩ := bind_some h41
                refine DL.quiet (v := .bool t42) rfl (Wn.no c39 rfl rfl rfl rfl) rfl rfl rfl (f_call rfl rfl (args_val (vs := [.agg #[.int .i64 a0_0, .int .i64 a0_1, .int .i64 a0_2, .int .i64 a0_3]]) rfl) (fun w => enter21 _ w) (fun w => policy_Kept.val h43 w)) ?_
                refine DL.pure (v := .bool t42) rfl (Wn.yes c30 rfl rfl rfl rfl) rfl rfl rfl (p_pick_f c39 rfl rfl rfl) ?_
                obtain rfl := Option.some.inj h44
                exact DL.weak J38 (Sub.cons rfl (Sub.cons rfl (Sub.nil _)))
          · replace c30 := Bool.eq_false_iff.mpr c30
            have h45 := ite_false c30 h27
            refine DL.not (i := 11) rfl (Wn.no c30 rfl rfl rfl rfl) rfl rfl ?_
            refine DL.not (i := 12) rfl (Wn.no c30 rfl rfl rfl rfl) rfl rfl ?_
            refine DL.not (i := 13) rfl (Wn.no c30 rfl rfl rfl rfl) rfl rfl ?_
            refine DL.not (i := 14) rfl (Wn.no c30 rfl rfl rfl rfl) rfl rfl ?_
            refine DL.not (i := 15) rfl (Wn.undef rfl rfl rfl) rfl rfl ?_
            refine DL.not (i := 16) rfl (Wn.undef rfl rfl rfl) rfl rfl ?_
            refine DL.not (i := 17) rfl (Wn.no c30 rfl rfl rfl rfl) rfl rfl ?_
            refine DL.pu 31 (.bool false) rfl (p_pick_f c30 rfl rfl rfl) ?_
            obtain rfl := Option.some.inj h45
            exact DL.weak J29 (Sub.cons rfl (Sub.nil _))
      · by_cases c23 : ((iand .i64 a0_2 8) != 0) = true
        · have h24 := ite_true c23 h20
          refine DL.pure (v := ptr b2 2) rfl (Wn.yes c23 rfl rfl rfl rfl) rfl rfl rfl (p_fieldAddr ty_f26_2 rfl rfl) ?_
          refine DL.quiet (v := .int .i64 a1_2) rfl (Wn.yes c23 rfl rfl rfl rfl) rfl rfl rfl (f_load (j := 0) ty_a24 rfl rfl rfl rfl) ?_
          refine DL.pure (v := .int .i64 (iand .i64 a1_2 2)) rfl (Wn.yes c23 rfl rfl rfl rfl) rfl rfl rfl (p_and rfl rfl rfl) ?_
          refine DL.pure (v := .bool ((iand .i64 a1_2 2) != 0)) rfl (Wn.yes c23 rfl rfl rfl rfl) rfl rfl rfl (p_neq rfl rfl rfl) ?_
          refine DL.pu 22 (.bool ((iand .i64 a1_2 2) != 0)) rfl (p_pick_t c23 rfl rfl rfl) ?_
          obtain rfl := Option.some.inj h24
          exact DL.weak J22 (Sub.cons rfl (Sub.cons rfl (Sub.cons rfl (Sub.nil _))))
        · replace c23 := Bool.eq_false_iff.mpr c23
          have h25 := ite_false c23 h20
          refine DL.not (i := 5) rfl (Wn.no c23 rfl rfl rfl rfl) rfl rfl ?_
          refine DL.not (i := 6) rfl (Wn.no c23 rfl rfl rfl rfl) rfl rfl ?_
          refine DL.not (i := 7) rfl (Wn.no c23 rfl rfl rfl rfl) rfl rfl ?_
          refine DL.not (i := 8) rfl (Wn.no c23 rfl rfl rfl rfl) rfl rfl ?_
          refine DL.pu 22 (.bool false) rfl (p_pick_f c23 rfl rfl rfl) ?_
          obtain rfl := Option.some.inj h25
          exact DL.weak J22 (Sub.cons rfl (Sub.cons rfl (Sub.cons rfl (Sub.nil _))))
  · by_cases c10 : (!t3) = true
    · have h11 := ite_true c10 h7
      refine DL.not (i := 4) rfl (Wn.yes c10 rfl rfl rfl rfl) rfl rfl ?_
      refine DL.not (i := 5) rfl (Wn.yes c10 rfl rfl rfl rfl) rfl rfl ?_
      refine DL.not (i := 6) rfl (Wn.yes c10 rfl rfl rfl rfl) rfl rfl ?_
      refine DL.pu 12 (.bool true) rfl (p_pick_t c10 rfl rfl rfl) ?_
      obtain rfl := Option.some.inj h11
      exact DL.weak J9 (Sub.cons rfl (Sub.cons rfl (Sub.cons rfl (Sub.nil _))))
    · replace c10 := Bool.eq_false_iff.mpr c10
      have h12 := ite_false c10 h7
      refine DL.quiet (v := .agg #[.int .i64 a1_0, .int .i64 a1_1, .int .i64 a1_2, .int .i64 a1_3]) rfl (Wn.no c10 rfl rfl rfl rfl) rfl rfl rfl (f_loadA (j := 0) ty_a26 ty_s26 rfl rfl rfl rfl) ?_
      obtain ⟨t13, h14, h15⟩ := bind_some h12
      refine DL.quiet (v := .bool t13) rfl (Wn.no c10 rfl rfl rfl rfl) rfl rfl rfl (f_call rfl rfl (args_val (vs := [.agg #[.int .i64 a1_0, .int .i64 a1_1, .int .i64 a1_2, .int .i64 a1_3]]) rfl) (fun w => enter22 _ w) (fun w => policy_MayCard.val h14 w)) ?_
      refine DL.pure (v := .bool (!t13)) rfl (Wn.no c10 rfl rfl rfl rfl) rfl rfl rfl (p_not rfl rfl) ?_
      refine DL.pu 12 (.bool (!t13)) rfl (p_pick_f c10 rfl rfl rfl) ?_
      obtain rfl := Option.some.inj h15
      exact DL.weak J9 (Sub.cons rfl (Sub.cons rfl (Sub.cons rfl (Sub.nil _))))
theorem policy_Wraps.val {a0_0 : Int} {a0_1 : Int} {a0_2 : Int} {a0_3 : Int} {a1_0 : Int} {a1_1 : Int} {a1_2 : Int} {a1_3 : Int} {r : Int} (h : policy_Wraps.f a0_0 a0_1 a0_2 a0_3 a1_0 a1_1 a1_2 a1_3 = some r) (w : World) : Calls Try.prog 19 #[.agg #[.int .i64 a0_0, .int .i64 a0_1, .int .i64 a0_2, .int .i64 a0_3], .agg #[.int .i64 a1_0, .int .i64 a1_1, .int .i64 a1_2, .int .i64 a1_3]] w fun e w' => e = .returned (.int .i64 r) ∧ Below w.heap.size w w' :=
  calls_value (policy_Wraps.ok h w)

/-! ### escutcheon/escutcheonref21.Wraps: function 20 -/
noncomputable def B20 : Code := bodyOf Try.f20
def ref21_Wraps.f (a0_0 : Int) (a0_1 : Int) (a0_2 : Int) (a0_3 : Int) (a1_0 : Int) (a1_1 : Int) (a1_2 : Int) (a1_3 : Int) : Option (Int) := (ref21_MayCard.f a0_0 a0_1 a0_2 a0_3).bind fun t3 => (if (!t3) = true then (some true) else ((ref21_MayCard.f a1_0 a1_1 a1_2 a1_3).bind fun t13 => some (!t13))).bind fun q6 => if q6 = true then (some 2) else ((ref21_Has.f a0_2 8).bind fun t19 => (if (!t19) = true then (some true) else ((ref21_Has.f a1_2 2).bind fun t29 => some (!t29))).bind fun q22 => (if q22 = true then (some true) else ((ref21_Kept.f a1_0 a1_1 a1_2 a1_3).bind fun t39 => (if t39 = true then ((ref21_Kept.f a0_0 a0_1 a0_2 a0_3).bind fun t48 => some (!t48)) else (some false)).bind fun q42 => some q42)).bind fun q32 => if q32 = true then (some 12) else (some 0))
set_option maxRecDepth 20000 in
theorem ref21_Wraps.ok {a0_0 : Int} {a0_1 : Int} {a0_2 : Int} {a0_3 : Int} {a1_0 : Int} {a1_1 : Int} {a1_2 : Int} {a1_3 : Int} {r : Int} (h : ref21_Wraps.f a0_0 a0_1 a0_2 a0_3 a1_0 a1_1 a1_2 a1_3 = some r) (w : World) : Calls Try.prog 20 #[.agg #[.int .i64 a0_0, .int .i64 a0_1, .int .i64 a0_2, .int .i64 a0_3], .agg #[.int .i64 a1_0, .int .i64 a1_1, .int .i64 a1_2, .int .i64 a1_3]] w (Post (fun u => u = .int .i64 r) w) := by
  unfold ref21_Wraps.f at h
  refine calls_of_TT (N := 32) (S := [(0, .agg #[.int .i64 a0_0, .int .i64 a0_1, .int .i64 a0_2, .int .i64 a0_3]), (1, .agg #[.int .i64 a1_0, .int .i64 a1_1, .int .i64 a1_2, .int .i64 a1_3])]) (c := B20) Try.func20 rfl rfl rfl (by simp) ?_
  show TT _ _ _ _ _ _ [.code (sub [] B20)] _ _
  refine TT.seq (x := sub [0] B20) (y := sub [1] B20) ?_
  refine TT.region (id := 0) (n := 3) (ops := (opsOf (sub [0] B20))) [(.alloc, none), (.alloc, none), (.pure, none)] rfl ?_
  show DL _ _ _ _ _ _ _ _ _ _ [0, 1, 2] _ _
  refine DL.new (ob := .cells (#[.int .i64 a0_0, .int .i64 a0_1, .int .i64 a0_2, .int .i64 a0_3]) 26) (mk := fun b => ptr b 0) (i := 0) rfl (Wn.none rfl) rfl rfl rfl (f_box (v := .agg #[.int .i64 a0_0, .int .i64 a0_1, .int .i64 a0_2, .int .i64 a0_3]) rfl rfl) ?_
  intro b1 hb1
  refine DL.new (ob := .cells (#[.int .i64 a1_0, .int .i64 a1_1, .int .i64 a1_2, .int .i64 a1_3]) 26) (mk := fun b => ptr b 0) (i := 1) rfl (Wn.none rfl) rfl rfl rfl (f_box (v := .agg #[.int .i64 a1_0, .int .i64 a1_1, .int .i64 a1_2, .int .i64 a1_3]) rfl rfl) ?_
  intro b2 hb2
  refine DL.pu 4 (.int .i64 0) rfl (p_assign rfl rfl) ?_
  refine DL.nil ?_
  refine TT.seq (x := sub [1, 0] B20) (y := sub [1, 1] B20) ?_
  refine TT.seq (x := sub [1, 0, 0] B20) (y := sub [1, 0, 1] B20) ?_
  refine TT.region (id := 1) (n := 8) (ops := (opsOf (sub [1, 0, 0] B20))) [(.quiet, none), (.quiet, none), (.pure, none), (.pure, none), (.quiet, none), (.quiet, none), (.pure, none), (.pure, none)] rfl ?_
  show DL _ _ _ _ _ _ _ _ _ _ [0, 1, 2, 3, 4, 5, 6, 7] _ _
  refine DL.qu 5 (.agg #[.int .i64 a0_0, .int .i64 a0_1, .int .i64 a0_2, .int .i64 a0_3]) rfl (f_loadA (j := 1) ty_a26 ty_s26 rfl rfl rfl rfl) ?_
  obtain ⟨t3, h4, h5⟩ := bind_some h
  refine DL.qu 6 (.bool t3) rfl (f_call rfl rfl (args_val (vs := [.agg #[.int .i64 a0_0, .int .i64 a0_1, .int .i64 a0_2, .int .i64 a0_3]]) rfl) (fun w => enter23 _ w) (fun w => ref21_MayCard.val h4 w)) ?_
  refine DL.pu 7 (.bool (!t3)) rfl (p_not rfl rfl) ?_
  refine DL.pu 8 (.bool (!t3)) rfl (p_move rfl rfl) ?_
  obtain ⟨q6, h7, h8⟩ := bind_some h5
  refine DL.cut [(2, ptr b1 0), (3, ptr b2 0), (12, .bool q6)] [] ?_ (fun J9 => ?_)
  · refine DL.nil ?_
    by_cases c16 : q6 = true
    · have h17 := ite_true c16 h8
      refine TT.cond_true (x := sub [1, 0, 1, 0] B20) (y := sub [1, 0, 1, 1] B20) rfl c16 ?_
      refine TT.seq (x := sub [1, 0, 1, 0, 0] B20) (y := sub [1, 0, 1, 0, 1] B20) ?_
      refine TT.region (id := 2) (n := 1) (ops := (opsOf (sub [1, 0, 1, 0, 0] B20))) [(.pure, none)] rfl ?_
      show DL _ _ _ _ _ _ _ _ _ _ [0] _ _
      refine DL.pu 4 (.int .i64 2) rfl (p_assign rfl rfl) ?_
      refine DL.nil ?_
      obtain rfl := Option.some.inj h17
      exact ret1 Try.func20 rfl (ResV.tmp rfl) rfl
    · replace c16 := Bool.eq_false_iff.mpr c16
      have h18 := ite_false c16 h8
      refine TT.cond_false (x := sub [1, 0, 1, 0] B20) (y := sub [1, 0, 1, 1] B20) rfl c16 ?_
      refine TT.skip ?_
      refine TT.seq (x := sub [1, 1, 0] B20) (y := sub [1, 1, 1] B20) ?_
      refine TT.seq (x := sub [1, 1, 0, 0] B20) (y := sub [1, 1, 0, 1] B20) ?_
      refine TT.region (id := 3) (n := 19) (ops := (opsOf (sub [1, 1, 0, 0] B20))) [(.pure, none), (.quiet, none), (.quiet, none), (.pure, none), (.pure, none), (.pure, none), (.quiet, none), (.quiet, none), (.pure, none), (.pure, none), (.pure, none), (.quiet, none), (.quiet, none), (.pure, none), (.quiet, none), (.quiet, none), (.pure, none), (.pure, none), (.pure, none)] rfl ?_
      show DL _ _ _ _ _ _ _ _ _ _ [0, 1, 2, 3, 4, 5, 6, 7, 8, 9, 10, 11, 12, 13, 14, 15, 16, 17, 18] _ _
      refine DL.pu 13 (ptr b1 2) rfl (p_fieldAddr ty_f26_2 rfl rfl) ?_
      refine DL.qu 14 (.int .i64 a0_2) rfl (f_load (j := 1) ty_a24 rfl rfl rfl rfl) ?_
      obtain ⟨t19, h20, h21⟩ := bind_some h18
      refine DL.qu 15 (.bool t19) rfl (f_call rfl rfl (args_val (vs := [.int .i64 a0_2, .int .i64 8]) rfl) (fun w => enter34 _ w) (fun w => ref21_Has.val h20 w)) ?_
      refine DL.pu 16 (.bool (!t19)) rfl (p_not rfl rfl) ?_
      refine DL.pu 17 (.bool (!t19)) rfl (p_move rfl rfl) ?_
      obtain ⟨q22, h23, h24⟩ := bind_some h21
      refine DL.cut [(2, ptr b1 0), (3, ptr b2 0), (22, .bool q22)] [10, 11, 12, 13, 14, 15, 16, 17, 18] ?_ (fun J25 => ?_)
      · refine DL.pu 23 (.bool q22) rfl (p_move rfl rfl) ?_
        obtain ⟨q32, h33, h34⟩ := bind_some h24
        refine DL.cut [(31, .bool q32)] [] ?_ (fun J35 => ?_)
        · refine DL.nil ?_
          by_cases c52 : q32 = true
          · have h53 := ite_true c52 h34
            refine TT.cond_true (x := sub [1, 1, 0, 1, 0] B20) (y := sub [1, 1, 0, 1, 1] B20) rfl c52 ?_
            refine TT.seq (x := sub [1, 1, 0, 1, 0, 0] B20) (y := sub [1, 1, 0, 1, 0, 1] B20) ?_
            refine TT.region (id := 4) (n := 1) (ops := (opsOf (sub [1, 1, 0, 1, 0, 0] B20))) [(.pure, none)] rfl ?_
            show DL _ _ _ _ _ _ _ _ _ _ [0] _ _
            refine DL.pu 4 (.int .i64 12) rfl (p_assign rfl rfl) ?_
            refine DL.nil ?_
            obtain rfl := Option.some.inj h53
            exact ret1 Try.func20 rfl (ResV.tmp rfl) rfl
          · replace c52 := Bool.eq_false_iff.mpr c52
            have h54 := ite_false c52 h34
            refine TT.cond_false (x := sub [1, 1, 0, 1, 0] B20) (y := sub [1, 1, 0, 1, 1] B20) rfl c52 ?_
            refine TT.skip ?_
            refine TT.seq (x := sub [1, 1, 1, 0] B20) (y := sub [1, 1, 1, 1] B20) ?_
            refine TT.region (id := 5) (n := 1) (ops := (opsOf (sub [1, 1, 1, 0] B20))) [(.pure, none)] rfl ?_
            show DL _ _ _ _ _ _ _ _ _ _ [0] _ _
            refine DL.pu 4 (.int .i64 0) rfl (p_assign rfl rfl) ?_
            refine DL.nil ?_
            obtain rfl := Option.some.inj h54
            exact ret1 Try.func20 rfl (ResV.tmp rfl) rfl
        · by_cases c36 : q22 = true
          · have h37 := ite_true c36 h33
            refine DL.not (i := 11) rfl (Wn.yes c36 rfl rfl rfl rfl) rfl rfl ?_
            refine DL.not (i := 12) rfl (Wn.yes c36 rfl rfl rfl rfl) rfl rfl ?_
            refine DL.not (i := 13) rfl (Wn.yes c36 rfl rfl rfl rfl) rfl rfl ?_
            refine DL.not (i := 14) rfl (Wn.undef rfl rfl rfl) rfl rfl ?_
            refine DL.not (i := 15) rfl (Wn.undef rfl rfl rfl) rfl rfl ?_
            refine DL.not (i := 16) rfl (Wn.undef rfl rfl rfl) rfl rfl ?_
            refine DL.not (i := 17) rfl (Wn.yes c36 rfl rfl rfl rfl) rfl rfl ?_
            refine DL.pu 31 (.bool true) rfl (p_pick_t c36 rfl rfl rfl) ?_
            obtain rfl := Option.some.inj h37
            exact DL.weak J35 (Sub.cons rfl (Sub.nil _))
          · replace c36 := Bool.eq_false_iff.mpr c36
            have h38 := ite_false c36 h33
            refine DL.quiet (v := .agg #[.int .i64 a1_0, .int .i64 a1_1, .int .i64 a1_2, .int .i64 a1_3]) rfl (Wn.no c36 rfl rfl rfl rfl) rfl rfl rfl (f_loadA (j := 0) ty_a26 ty_s26 rfl rfl rfl rfl) ?_
            obtain ⟨t39, h40, h41⟩ := bind_some h38
            refine DL.quiet (v := .bool t39) rfl (Wn.no c36 rfl rfl rfl rfl) rfl rfl rfl (f_call rfl rfl (args_val (vs := [.agg #[.int .i64 a1_0, .int .i64 a1_1, .int .i64 a1_2, .int .i64 a1_3]]) rfl) (fun w => enter24 _ w) (fun w => ref21_Kept.val h40 w)) ?_
            refine DL.pure (v := .bool t39) rfl (Wn.no c36 rfl rfl rfl rfl) rfl rfl rfl (p_move rfl rfl) ?_
            obtain ⟨q42, h43, h44⟩ := bind_some h41
            refine DL.cut [(23, .bool q22), (30, .bool q42)] [18] ?_ (fun J45 => ?_)
            · refine DL.pu 31 (.bool q42) rfl (p_pick_f c36 rfl rfl rfl) ?_
              obtain rfl := Option.some.inj h44
              exact DL.weak J35 (Sub.cons rfl (Sub.nil _))
            · by_cases c46 : t39 = true
              · have h47 := ite_true c46 h43
                refine DL.quiet (v := .agg #[.int .i64 a0_0, .int .i64 a0_1, .int .i64 a0_2, .int .i64 a0_3]) rfl (Wn.yes c46 rfl rfl rfl rfl) rfl rfl rfl (f_loadA (j := 1) ty_a26 ty_s26 rfl rfl rfl rfl) ?_
                obtain ⟨t48, h49, h50⟩ := bind_some h47
                refine DL.quiet (v := .bool t48) rfl (Wn.yes c46 rfl rfl rfl rfl) rfl rfl rfl (f_call rfl rfl (args_val (vs := [.agg #[.int .i64 a0_0, .int .i64 a0_1, .int .i64 a0_2, .int .i64 a0_3]]) rfl) (fun w => enter24 _ w) (fun w => ref21_Kept.val h49 w)) ?_
                refine DL.pure (v := .bool (!t48)) rfl (Wn.yes c46 rfl rfl rfl rfl) rfl rfl rfl (p_not rfl rfl) ?_
                refine DL.pure (v := .bool (!t48)) rfl (Wn.no c36 rfl rfl rfl rfl) rfl rfl rfl (p_pick_t c46 rfl rfl rfl) ?_
                obtain rfl := Option.some.inj h50
                exact DL.weak J45 (Sub.cons rfl (Sub.cons rfl (Sub.nil _)))
              · replace c46 := Bool.eq_false_iff.mpr c46
                have h51 := ite_false c46 h43
                refine DL.not (i := 14) rfl (Wn.no c46 rfl rfl rfl rfl) rfl rfl ?_
                refine DL.not (i := 15) rfl (Wn.no c46 rfl rfl rfl rfl) rfl rfl ?_
                refine DL.not (i := 16) rfl (Wn.no c46 rfl rfl rfl rfl) rfl rfl ?_
                refine DL.pure (v := .bool false) rfl (Wn.no c36 rfl rfl rfl rfl) rfl rfl rfl (p_pick_f c46 rfl rfl rfl) ?_
                obtain rfl := Option.some.inj h51
                exact DL.weak J45 (Sub.cons rfl (Sub.cons rfl (Sub.nil _)))
      · by_cases c26 : (!t19) = true
        · have h27 := ite_true c26 h23
          refine DL.not (i := 5) rfl (Wn.yes c26 rfl rfl rfl rfl) rfl rfl ?_
          refine DL.not (i := 6) rfl (Wn.yes c26 rfl rfl rfl rfl) rfl rfl ?_
          refine DL.not (i := 7) rfl (Wn.yes c26 rfl rfl rfl rfl) rfl rfl ?_
          refine DL.not (i := 8) rfl (Wn.yes c26 rfl rfl rfl rfl) rfl rfl ?_
          refine DL.pu 22 (.bool true) rfl (p_pick_t c26 rfl rfl rfl) ?_
          obtain rfl := Option.some.inj h27
          exact DL.weak J25 (Sub.cons rfl (Sub.cons rfl (Sub.cons rfl (Sub.nil _))))
        · replace c26 := Bool.eq_false_iff.mpr c26
          have h28 := ite_false c26 h23
          refine DL.pure (v := ptr b2 2) rfl (Wn.no c26 rfl rfl rfl rfl) rfl rfl rfl (p_fieldAddr ty_f26_2 rfl rfl) ?_
          refine DL.quiet (v := .int .i64 a1_2) rfl (Wn.no c26 rfl rfl rfl rfl) rfl rfl rfl (f_load (j := 0) ty_a24 rfl rfl rfl rfl) ?_
          obtain ⟨t29, h30, h31⟩ := bind_some h28
          refine DL.quiet (v := .bool t29) rfl (Wn.no c26 rfl rfl rfl rfl) rfl rfl rfl (f_call rfl rfl (args_val (vs := [.int .i64 a1_2, .int .i64 2]) rfl) (fun w => enter34 _ w) (fun w => ref21_Has.val h30 w)) ?_
          refine DL.pure (v := .bool (!t29)) rfl (Wn.no c26 rfl rfl rfl rfl) rfl rfl rfl (p_not rfl rfl) ?_
          refine DL.pu 22 (.bool (!t29)) rfl (p_pick_f c26 rfl rfl rfl) ?_
          obtain rfl := Option.some.inj h31
          exact DL.weak J25 (Sub.cons rfl (Sub.cons rfl (Sub.cons rfl (Sub.nil _))))
  · by_cases c10 : (!t3) = true
    · have h11 := ite_true c10 h7
      refine DL.not (i := 4) rfl (Wn.yes c10 rfl rfl rfl rfl) rfl rfl ?_
      refine DL.not (i := 5) rfl (Wn.yes c10 rfl rfl rfl rfl) rfl rfl ?_
      refine DL.not (i := 6) rfl (Wn.yes c10 rfl rfl rfl rfl) rfl rfl ?_
      refine DL.pu 12 (.bool true) rfl (p_pick_t c10 rfl rfl rfl) ?_
      obtain rfl := Option.some.inj h11
      exact DL.weak J9 (Sub.cons rfl (Sub.cons rfl (Sub.cons rfl (Sub.nil _))))
    · replace c10 := Bool.eq_false_iff.mpr c10
      have h12 := ite_false c10 h7
      refine DL.quiet (v := .agg #[.int .i64 a1_0, .int .i64 a1_1, .int .i64 a1_2, .int .i64 a1_3]) rfl (Wn.no c10 rfl rfl rfl rfl) rfl rfl rfl (f_loadA (j := 0) ty_a26 ty_s26 rfl rfl rfl rfl) ?_
      obtain ⟨t13, h14, h15⟩ := bind_some h12
      refine DL.quiet (v := .bool t13) rfl (Wn.no c10 rfl rfl rfl rfl) rfl rfl rfl (f_call rfl rfl (args_val (vs := [.agg #[.int .i64 a1_0, .int .i64 a1_1, .int .i64 a1_2, .int .i64 a1_3]]) rfl) (fun w => enter23 _ w) (fun w => ref21_MayCard.val h14 w)) ?_
      refine DL.pure (v := .bool (!t13)) rfl (Wn.no c10 rfl rfl rfl rfl) rfl rfl rfl (p_not rfl rfl) ?_
      refine DL.pu 12 (.bool (!t13)) rfl (p_pick_f c10 rfl rfl rfl) ?_
      obtain rfl := Option.some.inj h15
      exact DL.weak J9 (Sub.cons rfl (Sub.cons rfl (Sub.cons rfl (Sub.nil _))))
theorem ref21_Wraps.val {a0_0 : Int} {a0_1 : Int} {a0_2 : Int} {a0_3 : Int} {a1_0 : Int} {a1_1 : Int} {a1_2 : Int} {a1_3 : Int} {r : Int} (h : ref21_Wraps.f a0_0 a0_1 a0_2 a0_3 a1_0 a1_1 a1_2 a1_3 = some r) (w : World) : Calls Try.prog 20 #[.agg #[.int .i64 a0_0, .int .i64 a0_1, .int .i64 a0_2, .int .i64 a0_3], .agg #[.int .i64 a1_0, .int .i64 a1_1, .int .i64 a1_2, .int .i64 a1_3]] w fun e w' => e = .returned (.int .i64 r) ∧ Below w.heap.size w w' :=
  calls_value (ref21_Wraps.ok h w)

/-! ### escutcheon/policy.rules$1$1: function 39 -/
noncomputable def B39 : Code := bodyOf Try.f39
def policy_rules_1_1.f (a0_0 : Int) (a0_1 : Int) (a0_2 : Int) (a0_3 : Int) (c0 : Int) : Option (Bool) := some ((iand .i64 a0_2 c0) != 0)
set_option maxRecDepth 20000 in
theorem policy_rules_1_1.ok {a0_0 : Int} {a0_1 : Int} {a0_2 : Int} {a0_3 : Int} {c0 : Int} {c0_b : Nat} {r : Bool} (h : policy_rules_1_1.f a0_0 a0_1 a0_2 a0_3 c0 = some r) (w : World) (hb_c0 : (heapOf w) c0_b = some (.cells #[.int .i64 c0] 24 (0, 0))) : Calls Try.prog 39 #[.agg #[.int .i64 a0_0, .int .i64 a0_1, .int .i64 a0_2, .int .i64 a0_3], ptr c0_b 0] w (Post (fun u => u = .bool r) w) := by
  unfold policy_rules_1_1.f at h
  refine calls_of_TT (N := 9) (S := [(0, .agg #[.int .i64 a0_0, .int .i64 a0_1, .int .i64 a0_2, .int .i64 a0_3]), (1, ptr c0_b 0)]) (c := B39) Try.func39 rfl rfl rfl (by simp) ?_
  show TT _ _ _ _ _ _ [.code (sub [] B39)] _ _
  refine TT.seq (x := sub [0] B39) (y := sub [1] B39) ?_
  refine TT.region (id := 0) (n := 2) (ops := (opsOf (sub [0] B39))) [(.alloc, none), (.pure, none)] rfl ?_
  show DL _ _ _ _ _ _ _ _ _ _ [0, 1] _ _
  refine DL.new (ob := .cells (#[.int .i64 a0_0, .int .i64 a0_1, .int .i64 a0_2, .int .i64 a0_3]) 26) (mk := fun b => ptr b 0) (i := 0) rfl (Wn.none rfl) rfl rfl rfl (f_box (v := .agg #[.int .i64 a0_0, .int .i64 a0_1, .int .i64 a0_2, .int .i64 a0_3]) rfl rfl) ?_
  intro b1 hb1
  refine DL.pu 3 (.bool false) rfl (p_assign rfl rfl) ?_
  refine DL.nil ?_
  refine TT.seq (x := sub [1, 0] B39) (y := sub [1, 1] B39) ?_
  refine TT.region (id := 1) (n := 6) (ops := (opsOf (sub [1, 0] B39))) [(.pure, none), (.quiet, none), (.pure, none), (.pure, none), (.pure, none), (.pure, none)] rfl ?_
  show DL _ _ _ _ _ _ _ _ _ _ [0, 1, 2, 3, 4, 5] _ _
  refine DL.pu 4 (ptr b1 2) rfl (p_fieldAddr ty_f26_2 rfl rfl) ?_
  refine DL.qu 5 (.int .i64 a0_2) rfl (f_load (j := 0) ty_a24 rfl rfl rfl rfl) ?_
  refine DL.imm (v := .int .i64 c0) rfl (Wn.none rfl) rfl rfl rfl (i_loadBox hb_c0 rfl ty_a24 rfl rfl) ?_
  refine DL.pu 7 (.int .i64 (iand .i64 a0_2 c0)) rfl (p_and rfl rfl rfl) ?_
  refine DL.pu 8 (.bool ((iand .i64 a0_2 c0) != 0)) rfl (p_neq rfl rfl rfl) ?_
  refine DL.pu 3 (.bool ((iand .i64 a0_2 c0) != 0)) rfl (p_assign rfl rfl) ?_
  refine DL.nil ?_
  obtain rfl := Option.some.inj h
  exact ret1 Try.func39 rfl (ResV.tmp rfl) rfl
theorem policy_rules_1_1.val {a0_0 : Int} {a0_1 : Int} {a0_2 : Int} {a0_3 : Int} {c0 : Int} {c0_b : Nat} {r : Bool} (h : policy_rules_1_1.f a0_0 a0_1 a0_2 a0_3 c0 = some r) (w : World) (hb_c0 : (heapOf w) c0_b = some (.cells #[.int .i64 c0] 24 (0, 0))) : Calls Try.prog 39 #[.agg #[.int .i64 a0_0, .int .i64 a0_1, .int .i64 a0_2, .int .i64 a0_3], ptr c0_b 0] w fun e w' => e = .returned (.bool r) ∧ Below w.heap.size w w' :=
  calls_value (policy_rules_1_1.ok h w hb_c0)

/-! ### escutcheon/policy.rules$1: function 38 -/
noncomputable def B38 : Code := bodyOf Try.f38
def policy_rules_1.f (a0 : Int) : Option (Int) := some a0
set_option maxRecDepth 20000 in
theorem policy_rules_1.ok {a0 : Int} {r0 : Int} (h : policy_rules_1.f a0 = some r0) (w : World) : Calls Try.prog 38 #[.int .i64 a0] w (PostH (G := Nat) (fun g => .func (.func 39) #[] #[ptr g 0]) (fun g => [(some g, .cells (#[.int .i64 r0]) 24 (0, 0))]) (fun _ => True) w) := by
  unfold policy_rules_1.f at h
  refine calls_of_TT (N := 4) (S := [(0, .int .i64 a0)]) (c := B38) Try.func38 rfl rfl rfl (by simp) ?_
  show TT _ _ _ _ _ _ [.code (sub [] B38)] _ _
  refine TT.seq (x := sub [0] B38) (y := sub [1] B38) ?_
  refine TT.region (id := 0) (n := 2) (ops := (opsOf (sub [0] B38))) [(.alloc, none), (.pure, none)] rfl ?_
  show DL _ _ _ _ _ _ _ _ _ _ [0, 1] _ _
  refine DL.new (ob := .cells (#[.int .i64 a0]) 24) (mk := fun b => ptr b 0) (i := 0) rfl (Wn.none rfl) rfl rfl rfl (f_box (v := .int .i64 a0) rfl rfl) ?_
  intro b1 hb1
  refine DL.pu 2 (.nilFunc) rfl (p_assign rfl rfl) ?_
  refine DL.nil ?_
  refine TT.seq (x := sub [1, 0] B38) (y := sub [1, 1] B38) ?_
  refine TT.region (id := 1) (n := 2) (ops := (opsOf (sub [1, 0] B38))) [(.pure, none), (.pure, none)] rfl ?_
  show DL _ _ _ _ _ _ _ _ _ _ [0, 1] _ _
  refine DL.pu 3 (.func (.func 39) #[] #[ptr b1 0]) rfl (p_makeFunc rfl (args_val (vs := [ptr b1 0]) rfl)) ?_
  refine DL.pu 2 (.func (.func 39) #[] #[ptr b1 0]) rfl (p_assign rfl rfl) ?_
  refine DL.nil ?_
  obtain rfl := Option.some.inj h
  exact retH (rs := [.tmp 2]) (vs := [.func (.func 39) #[] #[ptr b1 0]]) b1 Try.func38 rfl rfl rfl (fun i r u hr hu => by match i, hr, hu with | 0, hr, hu => cases hr; cases hu; exact ResV.tmp rfl) trivial (.cons_cons _ (List.Sublist.refl []))

/-! ### escutcheon/policy.rules$2: function 40 -/
noncomputable def B40 : Code := bodyOf Try.f40
def policy_rules_2.f (a0_0 : Int) (a0_1 : Int) (a0_2 : Int) (a0_3 : Int) : Option (Bool) := some true
set_option maxRecDepth 20000 in
theorem policy_rules_2.ok {a0_0 : Int} {a0_1 : Int} {a0_2 : Int} {a0_3 : Int} {r : Bool} (h : policy_rules_2.f a0_0 a0_1 a0_2 a0_3 = some r) (w : World) : Calls Try.prog 40 #[.agg #[.int .i64 a0_0, .int .i64 a0_1, .int .i64 a0_2, .int .i64 a0_3]] w (Post (fun u => u = .bool r) w) := by
  unfold policy_rules_2.f at h
  refine calls_of_TT (N := 3) (S := [(0, .agg #[.int .i64 a0_0, .int .i64 a0_1, .int .i64 a0_2, .int .i64 a0_3])]) (c := B40) Try.func40 rfl rfl rfl (by simp) ?_
  show TT _ _ _ _ _ _ [.code (sub [] B40)] _ _
  refine TT.seq (x := sub [0] B40) (y := sub [1] B40) ?_
  refine TT.region (id := 0) (n := 2) (ops := (opsOf (sub [0] B40))) [(.alloc, none), (.pure, none)] rfl ?_
  show DL _ _ _ _ _ _ _ _ _ _ [0, 1] _ _
  refine DL.new (ob := .cells (#[.int .i64 a0_0, .int .i64 a0_1, .int .i64 a0_2, .int .i64 a0_3]) 26) (mk := fun b => ptr b 0) (i := 0) rfl (Wn.none rfl) rfl rfl rfl (f_box (v := .agg #[.int .i64 a0_0, .int .i64 a0_1, .int .i64 a0_2, .int .i64 a0_3]) rfl rfl) ?_
  intro b1 hb1
  refine DL.pu 2 (.bool false) rfl (p_assign rfl rfl) ?_
  refine DL.nil ?_
  refine TT.seq (x := sub [1, 0] B40) (y := sub [1, 1] B40) ?_
  refine TT.region (id := 1) (n := 1) (ops := (opsOf (sub [1, 0] B40))) [(.pure, none)] rfl ?_
  show DL _ _ _ _ _ _ _ _ _ _ [0] _ _
  refine DL.pu 2 (.bool true) rfl (p_assign rfl rfl) ?_
  refine DL.nil ?_
  obtain rfl := Option.some.inj h
  exact ret1 Try.func40 rfl (ResV.tmp rfl) rfl
theorem policy_rules_2.val {a0_0 : Int} {a0_1 : Int} {a0_2 : Int} {a0_3 : Int} {r : Bool} (h : policy_rules_2.f a0_0 a0_1 a0_2 a0_3 = some r) (w : World) : Calls Try.prog 40 #[.agg #[.int .i64 a0_0, .int .i64 a0_1, .int .i64 a0_2, .int .i64 a0_3]] w fun e w' => e = .returned (.bool r) ∧ Below w.heap.size w w' :=
  calls_value (policy_rules_2.ok h w)

/-! ### escutcheon/policy.rules$3: function 41 -/
noncomputable def B41 : Code := bodyOf Try.f41
def policy_rules_3.f (a0_0 : Int) (a0_1 : Int) (a0_2 : Int) (a0_3 : Int) : Option (Bool) := some (a0_0 == 1)
set_option maxRecDepth 20000 in
theorem policy_rules_3.ok {a0_0 : Int} {a0_1 : Int} {a0_2 : Int} {a0_3 : Int} {r : Bool} (h : policy_rules_3.f a0_0 a0_1 a0_2 a0_3 = some r) (w : World) : Calls Try.prog 41 #[.agg #[.int .i64 a0_0, .int .i64 a0_1, .int .i64 a0_2, .int .i64 a0_3]] w (Post (fun u => u = .bool r) w) := by
  unfold policy_rules_3.f at h
  refine calls_of_TT (N := 6) (S := [(0, .agg #[.int .i64 a0_0, .int .i64 a0_1, .int .i64 a0_2, .int .i64 a0_3])]) (c := B41) Try.func41 rfl rfl rfl (by simp) ?_
  show TT _ _ _ _ _ _ [.code (sub [] B41)] _ _
  refine TT.seq (x := sub [0] B41) (y := sub [1] B41) ?_
  refine TT.region (id := 0) (n := 2) (ops := (opsOf (sub [0] B41))) [(.alloc, none), (.pure, none)] rfl ?_
  show DL _ _ _ _ _ _ _ _ _ _ [0, 1] _ _
  refine DL.new (ob := .cells (#[.int .i64 a0_0, .int .i64 a0_1, .int .i64 a0_2, .int .i64 a0_3]) 26) (mk := fun b => ptr b 0) (i := 0) rfl (Wn.none rfl) rfl rfl rfl (f_box (v := .agg #[.int .i64 a0_0, .int .i64 a0_1, .int .i64 a0_2, .int .i64 a0_3]) rfl rfl) ?_
  intro b1 hb1
  refine DL.pu 2 (.bool false) rfl (p_assign rfl rfl) ?_
  refine DL.nil ?_
  refine TT.seq (x := sub [1, 0] B41) (y := sub [1, 1] B41) ?_
  refine TT.region (id := 1) (n := 4) (ops := (opsOf (sub [1, 0] B41))) [(.pure, none), (.quiet, none), (.pure, none), (.pure, none)] rfl ?_
  show DL _ _ _ _ _ _ _ _ _ _ [0, 1, 2, 3] _ _
  refine DL.pu 3 (ptr b1 0) rfl (p_fieldAddr ty_f26_0 rfl rfl) ?_
  refine DL.qu 4 (.int .i64 a0_0) rfl (f_load (j := 0) ty_a22 rfl rfl rfl rfl) ?_
  refine DL.pu 5 (.bool (a0_0 == 1)) rfl (p_eql rfl rfl rfl) ?_
  refine DL.pu 2 (.bool (a0_0 == 1)) rfl (p_assign rfl rfl) ?_
  refine DL.nil ?_
  obtain rfl := Option.some.inj h
  exact ret1 Try.func41 rfl (ResV.tmp rfl) rfl
theorem policy_rules_3.val {a0_0 : Int} {a0_1 : Int} {a0_2 : Int} {a0_3 : Int} {r : Bool} (h : policy_rules_3.f a0_0 a0_1 a0_2 a0_3 = some r) (w : World) : Calls Try.prog 41 #[.agg #[.int .i64 a0_0, .int .i64 a0_1, .int .i64 a0_2, .int .i64 a0_3]] w fun e w' => e = .returned (.bool r) ∧ Below w.heap.size w w' :=
  calls_value (policy_rules_3.ok h w)

/-! ### escutcheon/policy.rules$4: function 42 -/
noncomputable def B42 : Code := bodyOf Try.f42
def policy_rules_4.f (a0_0 : Int) (a0_1 : Int) (a0_2 : Int) (a0_3 : Int) : Option (Bool) := (if (a0_0 == 1) = true then (some ((iand .i64 a0_2 32) != 0)) else (some false)).bind fun q2 => some q2
set_option maxRecDepth 20000 in
theorem policy_rules_4.ok {a0_0 : Int} {a0_1 : Int} {a0_2 : Int} {a0_3 : Int} {r : Bool} (h : policy_rules_4.f a0_0 a0_1 a0_2 a0_3 = some r) (w : World) : Calls Try.prog 42 #[.agg #[.int .i64 a0_0, .int .i64 a0_1, .int .i64 a0_2, .int .i64 a0_3]] w (Post (fun u => u = .bool r) w) := by
  unfold policy_rules_4.f at h
  refine calls_of_TT (N := 12) (S := [(0, .agg #[.int .i64 a0_0, .int .i64 a0_1, .int .i64 a0_2, .int .i64 a0_3])]) (c := B42) Try.func42 rfl rfl rfl (by simp) ?_
  show TT _ _ _ _ _ _ [.code (sub [] B42)] _ _
  refine TT.seq (x := sub [0] B42) (y := sub [1] B42) ?_
  refine TT.region (id := 0) (n := 2) (ops := (opsOf (sub [0] B42))) [(.alloc, none), (.pure, none)] rfl ?_
  show DL _ _ _ _ _ _ _ _ _ _ [0, 1] _ _
  refine DL.new (ob := .cells (#[.int .i64 a0_0, .int .i64 a0_1, .int .i64 a0_2, .int .i64 a0_3]) 26) (mk := fun b => ptr b 0) (i := 0) rfl (Wn.none rfl) rfl rfl rfl (f_box (v := .agg #[.int .i64 a0_0, .int .i64 a0_1, .int .i64 a0_2, .int .i64 a0_3]) rfl rfl) ?_
  intro b1 hb1
  refine DL.pu 2 (.bool false) rfl (p_assign rfl rfl) ?_
  refine DL.nil ?_
  refine TT.seq (x := sub [1, 0] B42) (y := sub [1, 1] B42) ?_
  refine TT.region (id := 1) (n := 10) (ops := (opsOf (sub [1, 0] B42))) [(.pure, none), (.quiet, none), (.pure, none), (.pure, none), (.pure, none), (.quiet, none), (.pure, none), (.pure, none), (.pure, none), (.pure, none)] rfl ?_
  show DL _ _ _ _ _ _ _ _ _ _ [0, 1, 2, 3, 4, 5, 6, 7, 8, 9] _ _
  refine DL.pu 3 (ptr b1 0) rfl (p_fieldAddr ty_f26_0 rfl rfl) ?_
  refine DL.qu 4 (.int .i64 a0_0) rfl (f_load (j := 0) ty_a22 rfl rfl rfl rfl) ?_
  refine DL.pu 5 (.bool (a0_0 == 1)) rfl (p_eql rfl rfl rfl) ?_
  refine DL.pu 6 (.bool (a0_0 == 1)) rfl (p_move rfl rfl) ?_
  obtain ⟨q2, h3, h4⟩ := bind_some h
  refine DL.cut [(11, .bool q2)] [9] ?_ (fun J5 => ?_)
  · refine DL.pu 2 (.bool q2) rfl (p_assign rfl rfl) ?_
    refine DL.nil ?_
    obtain rfl := Option.some.inj h4
    exact ret1 Try.func42 rfl (ResV.tmp rfl) rfl
  · by_cases c6 : (a0_0 == 1) = true
    · have h7 := ite_true c6 h3
      refine DL.pure (v := ptr b1 2) rfl (Wn.yes c6 rfl rfl rfl rfl) rfl rfl rfl (p_fieldAddr ty_f26_2 rfl rfl) ?_
      refine DL.quiet (v := .int .i64 a0_2) rfl (Wn.yes c6 rfl rfl rfl rfl) rfl rfl rfl (f_load (j := 0) ty_a24 rfl rfl rfl rfl) ?_
      refine DL.pure (v := .int .i64 (iand .i64 a0_2 32)) rfl (Wn.yes c6 rfl rfl rfl rfl) rfl rfl rfl (p_and rfl rfl rfl) ?_
      refine DL.pure (v := .bool ((iand .i64 a0_2 32) != 0)) rfl (Wn.yes c6 rfl rfl rfl rfl) rfl rfl rfl (p_neq rfl rfl rfl) ?_
      refine DL.pu 11 (.bool ((iand .i64 a0_2 32) != 0)) rfl (p_pick_t c6 rfl rfl rfl) ?_
      obtain rfl := Option.some.inj h7
      exact DL.weak J5 (Sub.cons rfl (Sub.nil _))
    · replace c6 := Bool.eq_false_iff.mpr c6
      have h8 := ite_false c6 h3
      refine DL.not (i := 4) rfl (Wn.no c6 rfl rfl rfl rfl) rfl rfl ?_
      refine DL.not (i := 5) rfl (Wn.no c6 rfl rfl rfl rfl) rfl rfl ?_
      refine DL.not (i := 6) rfl (Wn.no c6 rfl rfl rfl rfl) rfl rfl ?_
      refine DL.not (i := 7) rfl (Wn.no c6 rfl rfl rfl rfl) rfl rfl ?_
      refine DL.pu 11 (.bool false) rfl (p_pick_f c6 rfl rfl rfl) ?_
      obtain rfl := Option.some.inj h8
      exact DL.weak J5 (Sub.cons rfl (Sub.nil _))
theorem policy_rules_4.val {a0_0 : Int} {a0_1 : Int} {a0_2 : Int} {a0_3 : Int} {r : Bool} (h : policy_rules_4.f a0_0 a0_1 a0_2 a0_3 = some r) (w : World) : Calls Try.prog 42 #[.agg #[.int .i64 a0_0, .int .i64 a0_1, .int .i64 a0_2, .int .i64 a0_3]] w fun e w' => e = .returned (.bool r) ∧ Below w.heap.size w w' :=
  calls_value (policy_rules_4.ok h w)

/-! ### escutcheon/policy.rules: function 35 -/
noncomputable def B35 : Code := bodyOf Try.f35
def policy_rules.f : Option (Int × Int × Int × Int × Int) := (policy_rules_1.f 4).bind fun t2_0 => (policy_rules_1.f 8).bind fun t6_0 => (policy_rules_1.f 16).bind fun t10_0 => (policy_rules_1.f 1).bind fun t14_0 => (policy_rules_1.f 32).bind fun t18_0 => some (t18_0, t14_0, t10_0, t6_0, t2_0)
set_option maxHeartbeats 400000 in
set_option maxRecDepth 20000 in
theorem policy_rules.ok {r0 : Int} {r1 : Int} {r2 : Int} {r3 : Int} {r4 : Int} (h : policy_rules.f = some (r0, r1, r2, r3, r4)) (w : World) : Calls Try.prog 35 #[] w (PostH (G := Nat × Nat × Nat × Nat × Nat × Nat) (fun g => .map (some (g.2.2.2.2.2))) (fun g => [(some (g.1), .cells (#[.int .i64 r0]) 24 (0, 0)), (some (g.2.1), .cells (#[.int .i64 r1]) 24 (0, 0)), (some (g.2.2.1), .cells (#[.int .i64 r2]) 24 (0, 0)), (some (g.2.2.2.1), .cells (#[.int .i64 r3]) 24 (0, 0)), (some (g.2.2.2.2.1), .cells (#[.int .i64 r4]) 24 (0, 0)), (some (g.2.2.2.2.2), mobj .i64 [(3, .func (.func 40) #[] #[]), (11, .func (.func 40) #[] #[]), (10, .func (.func 40) #[] #[]), (4, .func (.func 41) #[] #[]), (5, .func (.func 39) #[] #[ptr (g.2.2.2.2.1) 0]), (7, .func (.func 39) #[] #[ptr (g.2.2.2.1) 0]), (8, .func (.func 39) #[] #[ptr (g.2.2.1) 0]), (9, .func (.func 39) #[] #[ptr (g.2.1) 0]), (12, .func (.func 39) #[] #[ptr (g.1) 0]), (13, .func (.func 42) #[] #[])])]) (fun _ => True) w) := by
  unfold policy_rules.f at h
  refine calls_of_TT (N := 18) (S := []) (c := B35) Try.func35 rfl rfl rfl (by simp) ?_
  show TT _ _ _ _ _ _ [.code (sub [] B35)] _ _
  refine TT.seq (x := sub [0] B35) (y := sub [1] B35) ?_
  refine TT.region (id := 0) (n := 1) (ops := (opsOf (sub [0] B35))) [(.pure, none)] rfl ?_
  show DL _ _ _ _ _ _ _ _ _ _ [0] _ _
  refine DL.pu 0 (.map none) rfl (p_assign rfl rfl) ?_
  refine DL.nil ?_
  refine TT.seq (x := sub [1, 0] B35) (y := sub [1, 1] B35) ?_
  refine TT.region (id := 1) (n := 1) (ops := (opsOf (sub [1, 0] B35))) [(.pure, none)] rfl ?_
  show DL _ _ _ _ _ _ _ _ _ _ [0] _ _
  refine DL.pu 1 (.func (.func 38) #[] #[]) rfl (p_assign rfl rfl) ?_
  refine DL.nil ?_
  refine TT.seq (x := sub [1, 1, 0] B35) (y := sub [1, 1, 1] B35) ?_
  refine TT.region (id := 2) (n := 1) (ops := (opsOf (sub [1, 1, 0] B35))) [(.pure, none)] rfl ?_
  show DL _ _ _ _ _ _ _ _ _ _ [0] _ _
  refine DL.pu 2 (.func (.func 40) #[] #[]) rfl (p_assign rfl rfl) ?_
  refine DL.nil ?_
  refine TT.seq (x := sub [1, 1, 1, 0] B35) (y := sub [1, 1, 1, 1] B35) ?_
  refine TT.region (id := 3) (n := 26) (ops := (opsOf (sub [1, 1, 1, 0] B35))) [(.alloc, none), (.pure, none), (.store, none), (.pure, none), (.store, none), (.pure, none), (.store, none), (.store, none), (.pure, none), (.act, none), (.store, none), (.pure, none), (.act, none), (.store, none), (.pure, none), (.act, none), (.store, none), (.pure, none), (.act, none), (.store, none), (.pure, none), (.act, none), (.store, none), (.store, none), (.pure, none), (.pure, none)] rfl ?_
  show DL _ _ _ _ _ _ _ _ _ _ [0, 1, 2, 3, 4, 5, 6, 7, 8, 9, 10, 11, 12, 13, 14, 15, 16, 17, 18, 19, 20, 21, 22, 23, 24, 25] _ _
  refine DL.new (ob := mobj .i64 []) (mk := fun b => .map (some b)) (i := 0) rfl (Wn.none rfl) rfl rfl rfl (f_makeMap rfl) ?_
  intro b1 hb1
  refine DL.pu 4 (.func (.func 40) #[] #[]) rfl (p_move rfl rfl) ?_
  refine DL.put (H' := [(some b1, mobj .i64 [(3, .func (.func 40) #[] #[])])]) (i := 2) rfl (Wn.none rfl) rfl rfl (f_insert (l := []) (a := 3) (v := .func (.func 40) #[] #[]) (j := 0) ty_u56 ty_u41 rfl rfl rfl rfl rfl rfl) (keep_none rfl) ?_
  refine DL.pu 5 (.func (.func 40) #[] #[]) rfl (p_move rfl rfl) ?_
  refine DL.put (H' := [(some b1, mobj .i64 [(3, .func (.func 40) #[] #[]), (11, .func (.func 40) #[] #[])])]) (i := 4) rfl (Wn.none rfl) rfl rfl (f_insert (l := [(3, .func (.func 40) #[] #[])]) (a := 11) (v := .func (.func 40) #[] #[]) (j := 0) ty_u56 ty_u41 rfl rfl rfl rfl rfl rfl) (keep_none rfl) ?_
  refine DL.pu 6 (.func (.func 40) #[] #[]) rfl (p_move rfl rfl) ?_
  refine DL.put (H' := [(some b1, mobj .i64 [(3, .func (.func 40) #[] #[]), (11, .func (.func 40) #[] #[]), (10, .func (.func 40) #[] #[])])]) (i := 6) rfl (Wn.none rfl) rfl rfl (f_insert (l := [(3, .func (.func 40) #[] #[]), (11, .func (.func 40) #[] #[])]) (a := 10) (v := .func (.func 40) #[] #[]) (j := 0) ty_u56 ty_u41 rfl rfl rfl rfl rfl rfl) (keep_none rfl) ?_
  refine DL.put (H' := [(some b1, mobj .i64 [(3, .func (.func 40) #[] #[]), (11, .func (.func 40) #[] #[]), (10, .func (.func 40) #[] #[]), (4, .func (.func 41) #[] #[])])]) (i := 7) rfl (Wn.none rfl) rfl rfl (f_insert (l := [(3, .func (.func 40) #[] #[]), (11, .func (.func 40) #[] #[]), (10, .func (.func 40) #[] #[])]) (a := 4) (v := .func (.func 41) #[] #[]) (j := 0) ty_u56 ty_u41 rfl rfl rfl rfl rfl rfl) (keep_none rfl) ?_
  refine DL.pu 7 (.func (.func 38) #[] #[]) rfl (p_move rfl rfl) ?_
  obtain ⟨t2_0, h3, h4⟩ := bind_some h
  refine DL.hand (v := fun g => .func (.func 39) #[] #[ptr g 0]) (E := fun g => [(some g, .cells (#[.int .i64 t2_0]) 24 (0, 0))]) (p := fun _ => True) ⟨0, trivial⟩ (i := 9) rfl (Wn.none rfl) rfl rfl rfl (f_callH (by simp) rfl rfl rfl (args_val (vs := [.int .i64 4]) rfl) (fun w => enter38 _ w) (fun w hc => policy_rules_1.ok h3 w )) ?_
  intro b5 _; dsimp only [List.cons_append, List.nil_append]
  refine DL.put (H' := [(some b5, .cells (#[.int .i64 t2_0]) 24 (0, 0)), (some b1, mobj .i64 [(3, .func (.func 40) #[] #[]), (11, .func (.func 40) #[] #[]), (10, .func (.func 40) #[] #[]), (4, .func (.func 41) #[] #[]), (5, .func (.func 39) #[] #[ptr b5 0])])]) (i := 10) rfl (Wn.none rfl) rfl rfl (f_insert (l := [(3, .func (.func 40) #[] #[]), (11, .func (.func 40) #[] #[]), (10, .func (.func 40) #[] #[]), (4, .func (.func 41) #[] #[])]) (a := 5) (v := .func (.func 39) #[] #[ptr b5 0]) (j := 1) ty_u56 ty_u41 rfl rfl rfl rfl rfl rfl) (keep_none rfl) ?_
  refine DL.pu 9 (.func (.func 38) #[] #[]) rfl (p_move rfl rfl) ?_
  obtain ⟨t6_0, h7, h8⟩ := bind_some h4
  refine DL.hand (v := fun g => .func (.func 39) #[] #[ptr g 0]) (E := fun g => [(some g, .cells (#[.int .i64 t6_0]) 24 (0, 0))]) (p := fun _ => True) ⟨0, trivial⟩ (i := 12) rfl (Wn.none rfl) rfl rfl rfl (f_callH (by simp) rfl rfl rfl (args_val (vs := [.int .i64 8]) rfl) (fun w => enter38 _ w) (fun w hc => policy_rules_1.ok h7 w )) ?_
  intro b9 _; dsimp only [List.cons_append, List.nil_append]
  refine DL.put (H' := [(some b9, .cells (#[.int .i64 t6_0]) 24 (0, 0)), (some b5, .cells (#[.int .i64 t2_0]) 24 (0, 0)), (some b1, mobj .i64 [(3, .func (.func 40) #[] #[]), (11, .func (.func 40) #[] #[]), (10, .func (.func 40) #[] #[]), (4, .func (.func 41) #[] #[]), (5, .func (.func 39) #[] #[ptr b5 0]), (7, .func (.func 39) #[] #[ptr b9 0])])]) (i := 13) rfl (Wn.none rfl) rfl rfl (f_insert (l := [(3, .func (.func 40) #[] #[]), (11, .func (.func 40) #[] #[]), (10, .func (.func 40) #[] #[]), (4, .func (.func 41) #[] #[]), (5, .func (.func 39) #[] #[ptr b5 0])]) (a := 7) (v := .func (.func 39) #[] #[ptr b9 0]) (j := 2) ty_u56 ty_u41 rfl rfl rfl rfl rfl rfl) (keep_none rfl) ?_
  refine DL.pu 11 (.func (.func 38) #[] #[]) rfl (p_move rfl rfl) ?_
  obtain ⟨t10_0, h11, h12⟩ := bind_some h8
  refine DL.hand (v := fun g => .func (.func 39) #[] #[ptr g 0]) (E := fun g => [(some g, .cells (#[.int .i64 t10_0]) 24 (0, 0))]) (p := fun _ => True) ⟨0, trivial⟩ (i := 15) rfl (Wn.none rfl) rfl rfl rfl (f_callH (by simp) rfl rfl rfl (args_val (vs := [.int .i64 16]) rfl) (fun w => enter38 _ w) (fun w hc => policy_rules_1.ok h11 w )) ?_
  intro b13 _; dsimp only [List.cons_append, List.nil_append]
  refine DL.put (H' := [(some b13, .cells (#[.int .i64 t10_0]) 24 (0, 0)), (some b9, .cells (#[.int .i64 t6_0]) 24 (0, 0)), (some b5, .cells (#[.int .i64 t2_0]) 24 (0, 0)), (some b1, mobj .i64 [(3, .func (.func 40) #[] #[]), (11, .func (.func 40) #[] #[]), (10, .func (.func 40) #[] #[]), (4, .func (.func 41) #[] #[]), (5, .func (.func 39) #[] #[ptr b5 0]), (7, .func (.func 39) #[] #[ptr b9 0]), (8, .func (.func 39) #[] #[ptr b13 0])])]) (i := 16) rfl (Wn.none rfl) rfl rfl (f_insert (l := [(3, .func (.func 40) #[] #[]), (11, .func (.func 40) #[] #[]), (10, .func (.func 40) #[] #[]), (4, .func (.func 41) #[] #[]), (5, .func (.func 39) #[] #[ptr b5 0]), (7, .func (.func 39) #[] #[ptr b9 0])]) (a := 8) (v := .func (.func 39) #[] #[ptr b13 0]) (j := 3) ty_u56 ty_u41 rfl rfl rfl rfl rfl rfl) (keep_none rfl) ?_
  refine DL.pu 13 (.func (.func 38) #[] #[]) rfl (p_move rfl rfl) ?_
  obtain ⟨t14_0, h15, h16⟩ := bind_some h12
  refine DL.hand (v := fun g => .func (.func 39) #[] #[ptr g 0]) (E := fun g => [(some g, .cells (#[.int .i64 t14_0]) 24 (0, 0))]) (p := fun _ => True) ⟨0, trivial⟩ (i := 18) rfl (Wn.none rfl) rfl rfl rfl (f_callH (by simp) rfl rfl rfl (args_val (vs := [.int .i64 1]) rfl) (fun w => enter38 _ w) (fun w hc => policy_rules_1.ok h15 w )) ?_
  intro b17 _; dsimp only [List.cons_append, List.nil_append]
  refine DL.put (H' := [(some b17, .cells (#[.int .i64 t14_0]) 24 (0, 0)), (some b13, .cells (#[.int .i64 t10_0]) 24 (0, 0)), (some b9, .cells (#[.int .i64 t6_0]) 24 (0, 0)), (some b5, .cells (#[.int .i64 t2_0]) 24 (0, 0)), (some b1, mobj .i64 [(3, .func (.func 40) #[] #[]), (11, .func (.func 40) #[] #[]), (10, .func (.func 40) #[] #[]), (4, .func (.func 41) #[] #[]), (5, .func (.func 39) #[] #[ptr b5 0]), (7, .func (.func 39) #[] #[ptr b9 0]), (8, .func (.func 39) #[] #[ptr b13 0]), (9, .func (.func 39) #[] #[ptr b17 0])])]) (i := 19) rfl (Wn.none rfl) rfl rfl (f_insert (l := [(3, .func (.func 40) #[] #[]), (11, .func (.func 40) #[] #[]), (10, .func (.func 40) #[] #[]), (4, .func (.func 41) #[] #[]), (5, .func (.func 39) #[] #[ptr b5 0]), (7, .func (.func 39) #[] #[ptr b9 0]), (8, .func (.func 39) #[] #[ptr b13 0])]) (a := 9) (v := .func (.func 39) #[] #[ptr b17 0]) (j := 4) ty_u56 ty_u41 rfl rfl rfl rfl rfl rfl) (keep_none rfl) ?_
  refine DL.pu 15 (.func (.func 38) #[] #[]) rfl (p_move rfl rfl) ?_
  obtain ⟨t18_0, h19, h20⟩ := bind_some h16
  refine DL.hand (v := fun g => .func (.func 39) #[] #[ptr g 0]) (E := fun g => [(some g, .cells (#[.int .i64 t18_0]) 24 (0, 0))]) (p := fun _ => True) ⟨0, trivial⟩ (i := 21) rfl (Wn.none rfl) rfl rfl rfl (f_callH (by simp) rfl rfl rfl (args_val (vs := [.int .i64 32]) rfl) (fun w => enter38 _ w) (fun w hc => policy_rules_1.ok h19 w )) ?_
  intro b21 _; dsimp only [List.cons_append, List.nil_append]
  refine DL.put (H' := [(some b21, .cells (#[.int .i64 t18_0]) 24 (0, 0)), (some b17, .cells (#[.int .i64 t14_0]) 24 (0, 0)), (some b13, .cells (#[.int .i64 t10_0]) 24 (0, 0)), (some b9, .cells (#[.int .i64 t6_0]) 24 (0, 0)), (some b5, .cells (#[.int .i64 t2_0]) 24 (0, 0)), (some b1, mobj .i64 [(3, .func (.func 40) #[] #[]), (11, .func (.func 40) #[] #[]), (10, .func (.func 40) #[] #[]), (4, .func (.func 41) #[] #[]), (5, .func (.func 39) #[] #[ptr b5 0]), (7, .func (.func 39) #[] #[ptr b9 0]), (8, .func (.func 39) #[] #[ptr b13 0]), (9, .func (.func 39) #[] #[ptr b17 0]), (12, .func (.func 39) #[] #[ptr b21 0])])]) (i := 22) rfl (Wn.none rfl) rfl rfl (f_insert (l := [(3, .func (.func 40) #[] #[]), (11, .func (.func 40) #[] #[]), (10, .func (.func 40) #[] #[]), (4, .func (.func 41) #[] #[]), (5, .func (.func 39) #[] #[ptr b5 0]), (7, .func (.func 39) #[] #[ptr b9 0]), (8, .func (.func 39) #[] #[ptr b13 0]), (9, .func (.func 39) #[] #[ptr b17 0])]) (a := 12) (v := .func (.func 39) #[] #[ptr b21 0]) (j := 5) ty_u56 ty_u41 rfl rfl rfl rfl rfl rfl) (keep_none rfl) ?_
  refine DL.put (H' := [(some b21, .cells (#[.int .i64 t18_0]) 24 (0, 0)), (some b17, .cells (#[.int .i64 t14_0]) 24 (0, 0)), (some b13, .cells (#[.int .i64 t10_0]) 24 (0, 0)), (some b9, .cells (#[.int .i64 t6_0]) 24 (0, 0)), (some b5, .cells (#[.int .i64 t2_0]) 24 (0, 0)), (some b1, mobj .i64 [(3, .func (.func 40) #[] #[]), (11, .func (.func 40) #[] #[]), (10, .func (.func 40) #[] #[]), (4, .func (.func 41) #[] #[]), (5, .func (.func 39) #[] #[ptr b5 0]), (7, .func (.func 39) #[] #[ptr b9 0]), (8, .func (.func 39) #[] #[ptr b13 0]), (9, .func (.func 39) #[] #[ptr b17 0]), (12, .func (.func 39) #[] #[ptr b21 0]), (13, .func (.func 42) #[] #[])])]) (i := 23) rfl (Wn.none rfl) rfl rfl (f_insert (l := [(3, .func (.func 40) #[] #[]), (11, .func (.func 40) #[] #[]), (10, .func (.func 40) #[] #[]), (4, .func (.func 41) #[] #[]), (5, .func (.func 39) #[] #[ptr b5 0]), (7, .func (.func 39) #[] #[ptr b9 0]), (8, .func (.func 39) #[] #[ptr b13 0]), (9, .func (.func 39) #[] #[ptr b17 0]), (12, .func (.func 39) #[] #[ptr b21 0])]) (a := 13) (v := .func (.func 42) #[] #[]) (j := 5) ty_u56 ty_u41 rfl rfl rfl rfl rfl rfl) (keep_none rfl) ?_
  refine DL.pu 17 (.map (some b1)) rfl (p_move rfl rfl) ?_
  refine DL.pu 0 (.map (some b1)) rfl (p_assign rfl rfl) ?_
  refine DL.nil ?_
  simp only [Option.some.injEq, Prod.mk.injEq] at h20
  obtain ⟨rfl, rfl, rfl, rfl, rfl⟩ := h20
  exact retH (rs := [.tmp 0]) (vs := [.map (some b1)]) (b21, b17, b13, b9, b5, b1) Try.func35 rfl rfl rfl (fun i r u hr hu => by match i, hr, hu with | 0, hr, hu => cases hr; cases hu; exact ResV.tmp rfl) trivial (.cons_cons _ (.cons_cons _ (.cons_cons _ (.cons_cons _ (.cons_cons _ (.cons_cons _ (List.Sublist.refl [])))))))

/-! ### escutcheon/policy.Asked: function 17 -/
noncomputable def B17 : Code := bodyOf Try.f17
def policy_Asked.f (a0_0 : Int) (a0_1 : Int) (a0_2 : Int) (a0_3 : Int) (a1 : Int) : Option (Int) := (policy_rules.f).bind fun (t2_0, t2_1, t2_2, t2_3, t2_4) => if (a1 == 3) = true then ((policy_MayCard.f a0_0 a0_1 a0_2 a0_3).bind fun t13 => (if (!t13) = true then (some true) else (some false)).bind fun q16 => if q16 = true then (some 2) else ((policy_rules_2.f a0_0 a0_1 a0_2 a0_3).bind fun t26 => (policy_told.f t26).bind fun t29 => some t29)) else (if (a1 == 11) = true then ((policy_MayCard.f a0_0 a0_1 a0_2 a0_3).bind fun t35 => (if (!t35) = true then (some true) else (some false)).bind fun q38 => if q38 = true then (some 2) else ((policy_rules_2.f a0_0 a0_1 a0_2 a0_3).bind fun t48 => (policy_told.f t48).bind fun t51 => some t51)) else (if (a1 == 10) = true then ((policy_MayCard.f a0_0 a0_1 a0_2 a0_3).bind fun t57 => (if (!t57) = true then (some true) else (some false)).bind fun q60 => if q60 = true then (some 2) else ((policy_rules_2.f a0_0 a0_1 a0_2 a0_3).bind fun t70 => (policy_told.f t70).bind fun t73 => some t73)) else (if (a1 == 4) = true then ((policy_MayCard.f a0_0 a0_1 a0_2 a0_3).bind fun t79 => (if (!t79) = true then (some true) else (some false)).bind fun q82 => if q82 = true then (some 2) else ((policy_rules_3.f a0_0 a0_1 a0_2 a0_3).bind fun t92 => (policy_told.f t92).bind fun t95 => some t95)) else (if (a1 == 5) = true then ((policy_MayCard.f a0_0 a0_1 a0_2 a0_3).bind fun t101 => (if (!t101) = true then (some true) else (some false)).bind fun q104 => if q104 = true then (some 2) else ((policy_rules_1_1.f a0_0 a0_1 a0_2 a0_3 t2_4).bind fun t114 => (policy_told.f t114).bind fun t117 => some t117)) else (if (a1 == 7) = true then ((policy_MayCard.f a0_0 a0_1 a0_2 a0_3).bind fun t123 => (if (!t123) = true then (some true) else (some false)).bind fun q126 => if q126 = true then (some 2) else ((policy_rules_1_1.f a0_0 a0_1 a0_2 a0_3 t2_3).bind fun t136 => (policy_told.f t136).bind fun t139 => some t139)) else (if (a1 == 8) = true then ((policy_MayCard.f a0_0 a0_1 a0_2 a0_3).bind fun t145 => (if (!t145) = true then (some true) else (some false)).bind fun q148 => if q148 = true then (some 2) else ((policy_rules_1_1.f a0_0 a0_1 a0_2 a0_3 t2_2).bind fun t158 => (policy_told.f t158).bind fun t161 => some t161)) else (if (a1 == 9) = true then ((policy_MayCard.f a0_0 a0_1 a0_2 a0_3).bind fun t167 => (if (!t167) = true then (some true) else (some false)).bind fun q170 => if q170 = true then (some 2) else ((policy_rules_1_1.f a0_0 a0_1 a0_2 a0_3 t2_1).bind fun t180 => (policy_told.f t180).bind fun t183 => some t183)) else (if (a1 == 12) = true then ((policy_MayCard.f a0_0 a0_1 a0_2 a0_3).bind fun t189 => (if (!t189) = true then (some true) else (some false)).bind fun q192 => if q192 = true then (some 2) else ((policy_rules_1_1.f a0_0 a0_1 a0_2 a0_3 t2_0).bind fun t202 => (policy_told.f t202).bind fun t205 => some t205)) else (if (a1 == 13) = true then ((policy_MayCard.f a0_0 a0_1 a0_2 a0_3).bind fun t211 => (if (!t211) = true then (some true) else (some false)).bind fun q214 => if q214 = true then (some 2) else ((policy_rules_4.f a0_0 a0_1 a0_2 a0_3).bind fun t224 => (policy_told.f t224).bind fun t227 => some t227)) else ((policy_MayCard.f a0_0 a0_1 a0_2 a0_3).bind fun t231 => (if (!t231) = true then (some ()) else (some ())).bind fun q234 => some 2))))))))))
set_option maxRecDepth 20000 in
theorem policy_Asked.ok {a0_0 : Int} {a0_1 : Int} {a0_2 : Int} {a0_3 : Int} {a1 : Int} {r : Int} (h : policy_Asked.f a0_0 a0_1 a0_2 a0_3 a1 = some r) (w : World) : Calls Try.prog 17 #[.agg #[.int .i64 a0_0, .int .i64 a0_1, .int .i64 a0_2, .int .i64 a0_3], .int .i64 a1] w (Post (fun u => u = .int .i64 r) w) := by
  unfold policy_Asked.f at h
  refine calls_of_TT (N := 20) (S := [(0, .agg #[.int .i64 a0_0, .int .i64 a0_1, .int .i64 a0_2, .int .i64 a0_3]), (1, .int .i64 a1)]) (c := B17) Try.func17 rfl rfl rfl (by simp) ?_
  show TT _ _ _ _ _ _ [.code (sub [] B17)] _ _
  refine TT.seq (x := sub [0] B17) (y := sub [1] B17) ?_
  refine TT.region (id := 0) (n := 2) (ops := (opsOf (sub [0] B17))) [(.alloc, none), (.pure, none)] rfl ?_
  show DL _ _ _ _ _ _ _ _ _ _ [0, 1] _ _
  refine DL.new (ob := .cells (#[.int .i64 a0_0, .int .i64 a0_1, .int .i64 a0_2, .int .i64 a0_3]) 26) (mk := fun b => ptr b 0) (i := 0) rfl (Wn.none rfl) rfl rfl rfl (f_box (v := .agg #[.int .i64 a0_0, .int .i64 a0_1, .int .i64 a0_2, .int .i64 a0_3]) rfl rfl) ?_
  intro b1 hb1
  refine DL.pu 4 (.int .i64 0) rfl (p_assign rfl rfl) ?_
  refine DL.nil ?_
  refine TT.seq (x := sub [1, 0] B17) (y := sub [1, 1] B17) ?_
  refine TT.region (id := 1) (n := 4) (ops := (opsOf (sub [1, 0] B17))) [(.act, none), (.pure, none), (.quiet, none), (.pure, none)] rfl ?_
  show DL _ _ _ _ _ _ _ _ _ _ [0, 1, 2, 3] _ _
  obtain ⟨⟨t2_0, t2_1, t2_2, t2_3, t2_4⟩, h3, h4⟩ := bind_some h
  refine DL.hand (v := fun g => .map (some (g.2.2.2.2.2))) (E := fun g => [(some (g.1), .cells (#[.int .i64 t2_0]) 24 (0, 0)), (some (g.2.1), .cells (#[.int .i64 t2_1]) 24 (0, 0)), (some (g.2.2.1), .cells (#[.int .i64 t2_2]) 24 (0, 0)), (some (g.2.2.2.1), .cells (#[.int .i64 t2_3]) 24 (0, 0)), (some (g.2.2.2.2.1), .cells (#[.int .i64 t2_4]) 24 (0, 0)), (some (g.2.2.2.2.2), mobj .i64 [(3, .func (.func 40) #[] #[]), (11, .func (.func 40) #[] #[]), (10, .func (.func 40) #[] #[]), (4, .func (.func 41) #[] #[]), (5, .func (.func 39) #[] #[ptr (g.2.2.2.2.1) 0]), (7, .func (.func 39) #[] #[ptr (g.2.2.2.1) 0]), (8, .func (.func 39) #[] #[ptr (g.2.2.1) 0]), (9, .func (.func 39) #[] #[ptr (g.2.1) 0]), (12, .func (.func 39) #[] #[ptr (g.1) 0]), (13, .func (.func 42) #[] #[])])]) (p := fun _ => True) ⟨(0, 0, 0, 0, 0, 0), trivial⟩ (i := 0) rfl (Wn.none rfl) rfl rfl rfl (f_callH (by simp) rfl rfl rfl (args_val (vs := []) rfl) (fun w => enter35 _ w) (fun w hc => policy_rules.ok h3 w )) ?_
  intro g_ _; obtain ⟨b5, b6, b7, b8, b9, b10⟩ := g_; dsimp only [List.cons_append, List.nil_append]
  refine DL.pu 7 (.int .i64 a1) rfl (p_move rfl rfl) ?_
  by_cases c11 : (a1 == 3) = true
  · have h12 := ite_true c11 h4
    refine DL.quiet (v := .func (.func 40) #[] #[]) rfl (Wn.none rfl) rfl rfl rfl (f_lookupV (v := .func (.func 40) #[] #[]) (by simp [mfind, c11]) (f_lookup (a := a1) (j := 5) ty_u56 ty_u41 ty_z47 rfl rfl rfl rfl)) ?_
    refine DL.pu 5 (.func (.func 40) #[] #[]) rfl (p_assign rfl rfl) ?_
    refine DL.nil ?_
    refine TT.seq (x := sub [1, 1, 0] B17) (y := sub [1, 1, 1] B17) ?_
    refine TT.seq (x := sub [1, 1, 0, 0] B17) (y := sub [1, 1, 0, 1] B17) ?_
    refine TT.region (id := 2) (n := 7) (ops := (opsOf (sub [1, 1, 0, 0] B17))) [(.quiet, none), (.quiet, none), (.pure, none), (.pure, none), (.pure, none), (.pure, none), (.pure, none)] rfl ?_
    show DL _ _ _ _ _ _ _ _ _ _ [0, 1, 2, 3, 4, 5, 6] _ _
    refine DL.qu 9 (.agg #[.int .i64 a0_0, .int .i64 a0_1, .int .i64 a0_2, .int .i64 a0_3]) rfl (f_loadA (j := 6) ty_a26 ty_s26 rfl rfl rfl rfl) ?_
    obtain ⟨t13, h14, h15⟩ := bind_some h12
    refine DL.qu 10 (.bool t13) rfl (f_call rfl rfl (args_val (vs := [.agg #[.int .i64 a0_0, .int .i64 a0_1, .int .i64 a0_2, .int .i64 a0_3]]) rfl) (fun w => enter22 _ w) (fun w => policy_MayCard.val h14 w)) ?_
    refine DL.pu 11 (.bool (!t13)) rfl (p_not rfl rfl) ?_
    refine DL.pu 12 (.bool (!t13)) rfl (p_move rfl rfl) ?_
    obtain ⟨q16, h17, h18⟩ := bind_some h15
    refine DL.cut [(2, ptr b1 0), (5, .func (.func 40) #[] #[]), (15, .bool q16)] [] ?_ (fun J19 => ?_)
    · refine DL.nil ?_
      by_cases c23 : q16 = true
      · have h24 := ite_true c23 h18
        refine TT.cond_true (x := sub [1, 1, 0, 1, 0] B17) (y := sub [1, 1, 0, 1, 1] B17) rfl c23 ?_
        refine TT.seq (x := sub [1, 1, 0, 1, 0, 0] B17) (y := sub [1, 1, 0, 1, 0, 1] B17) ?_
        refine TT.region (id := 3) (n := 1) (ops := (opsOf (sub [1, 1, 0, 1, 0, 0] B17))) [(.pure, none)] rfl ?_
        show DL _ _ _ _ _ _ _ _ _ _ [0] _ _
        refine DL.pu 4 (.int .i64 2) rfl (p_assign rfl rfl) ?_
        refine DL.nil ?_
        obtain rfl := Option.some.inj h24
        exact ret1 Try.func17 rfl (ResV.tmp rfl) rfl
      · replace c23 := Bool.eq_false_iff.mpr c23
        have h25 := ite_false c23 h18
        refine TT.cond_false (x := sub [1, 1, 0, 1, 0] B17) (y := sub [1, 1, 0, 1, 1] B17) rfl c23 ?_
        refine TT.skip ?_
        refine TT.seq (x := sub [1, 1, 1, 0] B17) (y := sub [1, 1, 1, 1] B17) ?_
        refine TT.region (id := 4) (n := 5) (ops := (opsOf (sub [1, 1, 1, 0] B17))) [(.pure, none), (.quiet, none), (.quiet, none), (.quiet, none), (.pure, none)] rfl ?_
        show DL _ _ _ _ _ _ _ _ _ _ [0, 1, 2, 3, 4] _ _
        refine DL.pu 16 (.func (.func 40) #[] #[]) rfl (p_move rfl rfl) ?_
        refine DL.qu 17 (.agg #[.int .i64 a0_0, .int .i64 a0_1, .int .i64 a0_2, .int .i64 a0_3]) rfl (f_loadA (j := 6) ty_a26 ty_s26 rfl rfl rfl rfl) ?_
        obtain ⟨t26, h27, h28⟩ := bind_some h25
        refine DL.qu 18 (.bool t26) rfl (f_callV (by simp) rfl rfl rfl (args_val (vs := [.agg #[.int .i64 a0_0, .int .i64 a0_1, .int .i64 a0_2, .int .i64 a0_3]]) rfl) (fun w => enter40 _ w) (fun w hc => policy_rules_2.val h27 w )) ?_
        obtain ⟨t29, h30, h31⟩ := bind_some h28
        refine DL.qu 19 (.int .i64 t29) rfl (f_call rfl rfl (args_val (vs := [.bool t26]) rfl) (fun w => enter36 _ w) (fun w => policy_told.val h30 w)) ?_
        refine DL.pu 4 (.int .i64 t29) rfl (p_assign rfl rfl) ?_
        refine DL.nil ?_
        obtain rfl := Option.some.inj h31
        exact ret1 Try.func17 rfl (ResV.tmp rfl) rfl
    · by_cases c20 : (!t13) = true
      · have h21 := ite_true c20 h17
        refine DL.not (i := 4) rfl (Wn.yes c20 rfl rfl rfl rfl) rfl rfl ?_
        refine DL.not (i := 5) rfl (Wn.yes c20 rfl rfl rfl rfl) rfl rfl ?_
        refine DL.pu 15 (.bool true) rfl (p_pick_t c20 rfl rfl rfl) ?_
        obtain rfl := Option.some.inj h21
        exact DL.weak J19 (Sub.cons rfl (Sub.cons rfl (Sub.cons rfl (Sub.nil _))))
      · replace c20 := Bool.eq_false_iff.mpr c20
        have h22 := ite_false c20 h17
        refine DL.pure (v := .func (.func 40) #[] #[]) rfl (Wn.no c20 rfl rfl rfl rfl) rfl rfl rfl (p_move rfl rfl) ?_
        refine DL.pure (v := .bool false) rfl (Wn.no c20 rfl rfl rfl rfl) rfl rfl rfl (p_eqNil (fun w => by kernel_rfl) (fun w => by kernel_rfl) rfl rfl rfl) ?_
        refine DL.pu 15 (.bool false) rfl (p_pick_f c20 rfl rfl rfl) ?_
        obtain rfl := Option.some.inj h22
        exact DL.weak J19 (Sub.cons rfl (Sub.cons rfl (Sub.cons rfl (Sub.nil _))))
  · replace c11 := Bool.eq_false_iff.mpr c11
    have h32 := ite_false c11 h4
    by_cases c33 : (a1 == 11) = true
    · have h34 := ite_true c33 h32
      refine DL.quiet (v := .func (.func 40) #[] #[]) rfl (Wn.none rfl) rfl rfl rfl (f_lookupV (v := .func (.func 40) #[] #[]) (by simp [mfind, c11, c33]) (f_lookup (a := a1) (j := 5) ty_u56 ty_u41 ty_z47 rfl rfl rfl rfl)) ?_
      refine DL.pu 5 (.func (.func 40) #[] #[]) rfl (p_assign rfl rfl) ?_
      refine DL.nil ?_
      refine TT.seq (x := sub [1, 1, 0] B17) (y := sub [1, 1, 1] B17) ?_
      refine TT.seq (x := sub [1, 1, 0, 0] B17) (y := sub [1, 1, 0, 1] B17) ?_
      refine TT.region (id := 2) (n := 7) (ops := (opsOf (sub [1, 1, 0, 0] B17))) [(.quiet, none), (.quiet, none), (.pure, none), (.pure, none), (.pure, none), (.pure, none), (.pure, none)] rfl ?_
      show DL _ _ _ _ _ _ _ _ _ _ [0, 1, 2, 3, 4, 5, 6] _ _
      refine DL.qu 9 (.agg #[.int .i64 a0_0, .int .i64 a0_1, .int .i64 a0_2, .int .i64 a0_3]) rfl (f_loadA (j := 6) ty_a26 ty_s26 rfl rfl rfl rfl) ?_
      obtain ⟨t35, h36, h37⟩ := bind_some h34
      refine DL.qu 10 (.bool t35) rfl (f_call rfl rfl (args_val (vs := [.agg #[.int .i64 a0_0, .int .i64 a0_1, .int .i64 a0_2, .int .i64 a0_3]]) rfl) (fun w => enter22 _ w) (fun w => policy_MayCard.val h36 w)) ?_
      refine DL.pu 11 (.bool (!t35)) rfl (p_not rfl rfl) ?_
      refine DL.pu 12 (.bool (!t35)) rfl (p_move rfl rfl) ?_
      obtain ⟨q38, h39, h40⟩ := bind_some h37
      refine DL.cut [(2, ptr b1 0), (5, .func (.func 40) #[] #[]), (15, .bool q38)] [] ?_ (fun J41 => ?_)
      · refine DL.nil ?_
        by_cases c45 : q38 = true
        · have h46 := ite_true c45 h40
          refine TT.cond_true (x := sub [1, 1, 0, 1, 0] B17) (y := sub [1, 1, 0, 1, 1] B17) rfl c45 ?_
          refine TT.seq (x := sub [1, 1, 0, 1, 0, 0] B17) (y := sub [1, 1, 0, 1, 0, 1] B17) ?_
          refine TT.region (id := 3) (n := 1) (ops := (opsOf (sub [1, 1, 0, 1, 0, 0] B17))) [(.pure, none)] rfl ?_
          show DL _ _ _ _ _ _ _ _ _ _ [0] _ _
          refine DL.pu 4 (.int .i64 2) rfl (p_assign rfl rfl) ?_
          refine DL.nil ?_
          obtain rfl := Option.some.inj h46
          exact ret1 Try.func17 rfl (ResV.tmp rfl) rfl
        · replace c45 := Bool.eq_false_iff.mpr c45
          have h47 := ite_false c45 h40
          refine TT.cond_false (x := sub [1, 1, 0, 1, 0] B17) (y := sub [1, 1, 0, 1, 1] B17) rfl c45 ?_
          refine TT.skip ?_
          refine TT.seq (x := sub [1, 1, 1, 0] B17) (y := sub [1, 1, 1, 1] B17) ?_
          refine TT.region (id := 4) (n := 5) (ops := (opsOf (sub [1, 1, 1, 0] B17))) [(.pure, none), (.quiet, none), (.quiet, none), (.quiet, none), (.pure, none)] rfl ?_
          show DL _ _ _ _ _ _ _ _ _ _ [0, 1, 2, 3, 4] _ _
          refine DL.pu 16 (.func (.func 40) #[] #[]) rfl (p_move rfl rfl) ?_
          refine DL.qu 17 (.agg #[.int .i64 a0_0, .int .i64 a0_1, .int .i64 a0_2, .int .i64 a0_3]) rfl (f_loadA (j := 6) ty_a26 ty_s26 rfl rfl rfl rfl) ?_
          obtain ⟨t48, h49, h50⟩ := bind_some h47
          refine DL.qu 18 (.bool t48) rfl (f_callV (by simp) rfl rfl rfl (args_val (vs := [.agg #[.int .i64 a0_0, .int .i64 a0_1, .int .i64 a0_2, .int .i64 a0_3]]) rfl) (fun w => enter40 _ w) (fun w hc => policy_rules_2.val h49 w )) ?_
          obtain ⟨t51, h52, h53⟩ := bind_some h50
          refine DL.qu 19 (.int .i64 t51) rfl (f_call rfl rfl (args_val (vs := [.bool t48]) rfl) (fun w => enter36 _ w) (fun w => policy_told.val h52 w)) ?_
          refine DL.pu 4 (.int .i64 t51) rfl (p_assign rfl rfl) ?_
          refine DL.nil ?_
          obtain rfl := Option.some.inj h53
          exact ret1 Try.func17 rfl (ResV.tmp rfl) rfl
      · by_cases c42 : (!t35) = true
        · have h43 := ite_true c42 h39
          refine DL.not (i := 4) rfl (Wn.yes c42 rfl rfl rfl rfl) rfl rfl ?_
          refine DL.not (i := 5) rfl (Wn.yes c42 rfl rfl rfl rfl) rfl rfl ?_
          refine DL.pu 15 (.bool true) rfl (p_pick_t c42 rfl rfl rfl) ?_
          obtain rfl := Option.some.inj h43
          exact DL.weak J41 (Sub.cons rfl (Sub.cons rfl (Sub.cons rfl (Sub.nil _))))
        · replace c42 := Bool.eq_false_iff.mpr c42
          have h44 := ite_false c42 h39
          refine DL.pure (v := .func (.func 40) #[] #[]) rfl (Wn.no c42 rfl rfl rfl rfl) rfl rfl rfl (p_move rfl rfl) ?_
          refine DL.pure (v := .bool false) rfl (Wn.no c42 rfl rfl rfl rfl) rfl rfl rfl (p_eqNil (fun w => by kernel_rfl) (fun w => by kernel_rfl) rfl rfl rfl) ?_
          refine DL.pu 15 (.bool false) rfl (p_pick_f c42 rfl rfl rfl) ?_
          obtain rfl := Option.some.inj h44
          exact DL.weak J41 (Sub.cons rfl (Sub.cons rfl (Sub.cons rfl (Sub.nil _))))
    · replace c33 := Bool.eq_false_iff.mpr c33
      have h54 := ite_false c33 h32
      by_cases c55 : (a1 == 10) = true
      · have h56 := ite_true c55 h54
        refine DL.quiet (v := .func (.func 40) #[] #[]) rfl (Wn.none rfl) rfl rfl rfl (f_lookupV (v := .func (.func 40) #[] #[]) (by simp [mfind, c11, c33, c55]) (f_lookup (a := a1) (j := 5) ty_u56 ty_u41 ty_z47 rfl rfl rfl rfl)) ?_
        refine DL.pu 5 (.func (.func 40) #[] #[]) rfl (p_assign rfl rfl) ?_
        refine DL.nil ?_
        refine TT.seq (x := sub [1, 1, 0] B17) (y := sub [1, 1, 1] B17) ?_
        refine TT.seq (x := sub [1, 1, 0, 0] B17) (y := sub [1, 1, 0, 1] B17) ?_
        refine TT.region (id := 2) (n := 7) (ops := (opsOf (sub [1, 1, 0, 0] B17))) [(.quiet, none), (.quiet, none), (.pure, none), (.pure, none), (.pure, none), (.pure, none), (.pure, none)] rfl ?_
        show DL _ _ _ _ _ _ _ _ _ _ [0, 1, 2, 3, 4, 5, 6] _ _
        refine DL.qu 9 (.agg #[.int .i64 a0_0, .int .i64 a0_1, .int .i64 a0_2, .int .i64 a0_3]) rfl (f_loadA (j := 6) ty_a26 ty_s26 rfl rfl rfl rfl) ?_
        obtain ⟨t57, h58, h59⟩ := bind_some h56
        refine DL.qu 10 (.bool t57) rfl (f_call rfl rfl (args_val (vs := [.agg #[.int .i64 a0_0, .int .i64 a0_1, .int .i64 a0_2, .int .i64 a0_3]]) rfl) (fun w => enter22 _ w) (fun w => policy_MayCard.val h58 w)) ?_
        refine DL.pu 11 (.bool (!t57)) rfl (p_not rfl rfl) ?_
        refine DL.pu 12 (.bool (!t57)) rfl (p_move rfl rfl) ?_
        obtain ⟨q60, h61, h62⟩ := bind_some h59
        refine DL.cut [(2, ptr b1 0), (5, .func (.func 40) #[] #[]), (15, .bool q60)] [] ?_ (fun J63 => ?_)
        · refine DL.nil ?_
          by_cases c67 : q60 = true
          · have h68 := ite_true c67 h62
            refine TT.cond_true (x := sub [1, 1, 0, 1, 0] B17) (y := sub [1, 1, 0, 1, 1] B17) rfl c67 ?_
            refine TT.seq (x := sub [1, 1, 0, 1, 0, 0] B17) (y := sub [1, 1, 0, 1, 0, 1] B17) ?_
            refine TT.region (id := 3) (n := 1) (ops := (opsOf (sub [1, 1, 0, 1, 0, 0] B17))) [(.pure, none)] rfl ?_
            show DL _ _ _ _ _ _ _ _ _ _ [0] _ _
            refine DL.pu 4 (.int .i64 2) rfl (p_assign rfl rfl) ?_
            refine DL.nil ?_
            obtain rfl := Option.some.inj h68
            exact ret1 Try.func17 rfl (ResV.tmp rfl) rfl
          · replace c67 := Bool.eq_false_iff.mpr c67
            have h69 := ite_false c67 h62
            refine TT.cond_false (x := sub [1, 1, 0, 1, 0] B17) (y := sub [1, 1, 0, 1, 1] B17) rfl c67 ?_
            refine TT.skip ?_
            refine TT.seq (x := sub [1, 1, 1, 0] B17) (y := sub [1, 1, 1, 1] B17) ?_
            refine TT.region (id := 4) (n := 5) (ops := (opsOf (sub [1, 1, 1, 0] B17))) [(.pure, none), (.quiet, none), (.quiet, none), (.quiet, none), (.pure, none)] rfl ?_
            show DL _ _ _ _ _ _ _ _ _ _ [0, 1, 2, 3, 4] _ _
            refine DL.pu 16 (.func (.func 40) #[] #[]) rfl (p_move rfl rfl) ?_
            refine DL.qu 17 (.agg #[.int .i64 a0_0, .int .i64 a0_1, .int .i64 a0_2, .int .i64 a0_3]) rfl (f_loadA (j := 6) ty_a26 ty_s26 rfl rfl rfl rfl) ?_
            obtain ⟨t70, h71, h72⟩ := bind_some h69
            refine DL.qu 18 (.bool t70) rfl (f_callV (by simp) rfl rfl rfl (args_val (vs := [.agg #[.int .i64 a0_0, .int .i64 a0_1, .int .i64 a0_2, .int .i64 a0_3]]) rfl) (fun w => enter40 _ w) (fun w hc => policy_rules_2.val h71 w )) ?_
            obtain ⟨t73, h74, h75⟩ := bind_some h72
            refine DL.qu 19 (.int .i64 t73) rfl (f_call rfl rfl (args_val (vs := [.bool t70]) rfl) (fun w => enter36 _ w) (fun w => policy_told.val h74 w)) ?_
            refine DL.pu 4 (.int .i64 t73) rfl (p_assign rfl rfl) ?_
            refine DL.nil ?_
            obtain rfl := Option.some.inj h75
            exact ret1 Try.func17 rfl (ResV.tmp rfl) rfl
        · by_cases c64 : (!t57) = true
          · have h65 := ite_true c64 h61
            refine DL.not (i := 4) rfl (Wn.yes c64 rfl rfl rfl rfl) rfl rfl ?_
            refine DL.not (i := 5) rfl (Wn.yes c64 rfl rfl rfl rfl) rfl rfl ?_
            refine DL.pu 15 (.bool true) rfl (p_pick_t c64 rfl rfl rfl) ?_
            obtain rfl := Option.some.inj h65
            exact DL.weak J63 (Sub.cons rfl (Sub.cons rfl (Sub.cons rfl (Sub.nil _))))
          · replace c64 := Bool.eq_false_iff.mpr c64
            have h66 := ite_false c64 h61
            refine DL.pure (v := .func (.func 40) #[] #[]) rfl (Wn.no c64 rfl rfl rfl rfl) rfl rfl rfl (p_move rfl rfl) ?_
            refine DL.pure (v := .bool false) rfl (Wn.no c64 rfl rfl rfl rfl) rfl rfl rfl (p_eqNil (fun w => by kernel_rfl) (fun w => by kernel_rfl) rfl rfl rfl) ?_
            refine DL.pu 15 (.bool false) rfl (p_pick_f c64 rfl rfl rfl) ?_
            obtain rfl := Option.some.inj h66
            exact DL.weak J63 (Sub.cons rfl (Sub.cons rfl (Sub.cons rfl (Sub.nil _))))
      · replace c55 := Bool.eq_false_iff.mpr c55
        have h76 := ite_false c55 h54
        by_cases c77 : (a1 == 4) = true
        · have h78 := ite_true c77 h76
          refine DL.quiet (v := .func (.func 41) #[] #[]) rfl (Wn.none rfl) rfl rfl rfl (f_lookupV (v := .func (.func 41) #[] #[]) (by simp [mfind, c11, c33, c55, c77]) (f_lookup (a := a1) (j := 5) ty_u56 ty_u41 ty_z47 rfl rfl rfl rfl)) ?_
          refine DL.pu 5 (.func (.func 41) #[] #[]) rfl (p_assign rfl rfl) ?_
          refine DL.nil ?_
          refine TT.seq (x := sub [1, 1, 0] B17) (y := sub [1, 1, 1] B17) ?_
          refine TT.seq (x := sub [1, 1, 0, 0] B17) (y := sub [1, 1, 0, 1] B17) ?_
          refine TT.region (id := 2) (n := 7) (ops := (opsOf (sub [1, 1, 0, 0] B17))) [(.quiet, none), (.quiet, none), (.pure, none), (.pure, none), (.pure, none), (.pure, none), (.pure, none)] rfl ?_
          show DL _ _ _ _ _ _ _ _ _ _ [0, 1, 2, 3, 4, 5, 6] _ _
          refine DL.qu 9 (.agg #[.int .i64 a0_0, .int .i64 a0_1, .int .i64 a0_2, .int .i64 a0_3]) rfl (f_loadA (j := 6) ty_a26 ty_s26 rfl rfl rfl rfl) ?_
          obtain ⟨t79, h80, h81⟩ := bind_some h78
          refine DL.qu 10 (.bool t79) rfl (f_call rfl rfl (args_val (vs := [.agg #[.int .i64 a0_0, .int .i64 a0_1, .int .i64 a0_2, .int .i64 a0_3]]) rfl) (fun w => enter22 _ w) (fun w => policy_MayCard.val h80 w)) ?_
          refine DL.pu 11 (.bool (!t79)) rfl (p_not rfl rfl) ?_
          refine DL.pu 12 (.bool (!t79)) rfl (p_move rfl rfl) ?_
          obtain ⟨q82, h83, h84⟩ := bind_some h81
          refine DL.cut [(2, ptr b1 0), (5, .func (.func 41) #[] #[]), (15, .bool q82)] [] ?_ (fun J85 => ?_)
          · refine DL.nil ?_
            by_cases c89 : q82 = true
            · have h90 := ite_true c89 h84
              refine TT.cond_true (x := sub [1, 1, 0, 1, 0] B17) (y := sub [1, 1, 0, 1, 1] B17) rfl c89 ?_
              refine TT.seq (x := sub [1, 1, 0, 1, 0, 0] B17) (y := sub [1, 1, 0, 1, 0, 1] B17) ?_
              refine TT.region (id := 3) (n := 1) (ops := (opsOf (sub [1, 1, 0, 1, 0, 0] B17))) [(.pure, none)] rfl ?_
              show DL _ _ _ _ _ _ _ _ _ _ [0] _ _
              refine DL.pu 4 (.int .i64 2) rfl (p_assign rfl rfl) ?_
              refine DL.nil ?_
              obtain rfl := Option.some.inj h90
              exact ret1 Try.func17 rfl (ResV.tmp rfl) rfl
            · replace c89 := Bool.eq_false_iff.mpr c89
              have h91 := ite_false c89 h84
              refine TT.cond_false (x := sub [1, 1, 0, 1, 0] B17) (y := sub [1, 1, 0, 1, 1] B17) rfl c89 ?_
              refine TT.skip ?_
              refine TT.seq (x := sub [1, 1, 1, 0] B17) (y := sub [1, 1, 1, 1] B17) ?_
              refine TT.region (id := 4) (n := 5) (ops := (opsOf (sub [1, 1, 1, 0] B17))) [(.pure, none), (.quiet, none), (.quiet, none), (.quiet, none), (.pure, none)] rfl ?_
              show DL _ _ _ _ _ _ _ _ _ _ [0, 1, 2, 3, 4] _ _
              refine DL.pu 16 (.func (.func 41) #[] #[]) rfl (p_move rfl rfl) ?_
              refine DL.qu 17 (.agg #[.int .i64 a0_0, .int .i64 a0_1, .int .i64 a0_2, .int .i64 a0_3]) rfl (f_loadA (j := 6) ty_a26 ty_s26 rfl rfl rfl rfl) ?_
              obtain ⟨t92, h93, h94⟩ := bind_some h91
              refine DL.qu 18 (.bool t92) rfl (f_callV (by simp) rfl rfl rfl (args_val (vs := [.agg #[.int .i64 a0_0, .int .i64 a0_1, .int .i64 a0_2, .int .i64 a0_3]]) rfl) (fun w => enter41 _ w) (fun w hc => policy_rules_3.val h93 w )) ?_
              obtain ⟨t95, h96, h97⟩ := bind_some h94
              refine DL.qu 19 (.int .i64 t95) rfl (f_call rfl rfl (args_val (vs := [.bool t92]) rfl) (fun w => enter36 _ w) (fun w => policy_told.val h96 w)) ?_
              refine DL.pu 4 (.int .i64 t95) rfl (p_assign rfl rfl) ?_
              refine DL.nil ?_
              obtain rfl := Option.some.inj h97
              exact ret1 Try.func17 rfl (ResV.tmp rfl) rfl
          · by_cases c86 : (!t79) = true
            · have h87 := ite_true c86 h83
              refine DL.not (i := 4) rfl (Wn.yes c86 rfl rfl rfl rfl) rfl rfl ?_
              refine DL.not (i := 5) rfl (Wn.yes c86 rfl rfl rfl rfl) rfl rfl ?_
              refine DL.pu 15 (.bool true) rfl (p_pick_t c86 rfl rfl rfl) ?_
              obtain rfl := Option.some.inj h87
              exact DL.weak J85 (Sub.cons rfl (Sub.cons rfl (Sub.cons rfl (Sub.nil _))))
            · replace c86 := Bool.eq_false_iff.mpr c86
              have h88 := ite_false c86 h83
              refine DL.pure (v := .func (.func 41) #[] #[]) rfl (Wn.no c86 rfl rfl rfl rfl) rfl rfl rfl (p_move rfl rfl) ?_
              refine DL.pure (v := .bool false) rfl (Wn.no c86 rfl rfl rfl rfl) rfl rfl rfl (p_eqNil (fun w => by kernel_rfl) (fun w => by kernel_rfl) rfl rfl rfl) ?_
              refine DL.pu 15 (.bool false) rfl (p_pick_f c86 rfl rfl rfl) ?_
              obtain rfl := Option.some.inj h88
              exact DL.weak J85 (Sub.cons rfl (Sub.cons rfl (Sub.cons rfl (Sub.nil _))))
        · replace c77 := Bool.eq_false_iff.mpr c77
          have h98 := ite_false c77 h76
          by_cases c99 : (a1 == 5) = true
          · have h100 := ite_true c99 h98
            refine DL.quiet (v := .func (.func 39) #[] #[ptr b9 0]) rfl (Wn.none rfl) rfl rfl rfl (f_lookupV (v := .func (.func 39) #[] #[ptr b9 0]) (by simp [mfind, c11, c33, c55, c77, c99]) (f_lookup (a := a1) (j := 5) ty_u56 ty_u41 ty_z47 rfl rfl rfl rfl)) ?_
            refine DL.pu 5 (.func (.func 39) #[] #[ptr b9 0]) rfl (p_assign rfl rfl) ?_
            refine DL.nil ?_
            refine TT.seq (x := sub [1, 1, 0] B17) (y := sub [1, 1, 1] B17) ?_
            refine TT.seq (x := sub [1, 1, 0, 0] B17) (y := sub [1, 1, 0, 1] B17) ?_
            refine TT.region (id := 2) (n := 7) (ops := (opsOf (sub [1, 1, 0, 0] B17))) [(.quiet, none), (.quiet, none), (.pure, none), (.pure, none), (.pure, none), (.pure, none), (.pure, none)] rfl ?_
            show DL _ _ _ _ _ _ _ _ _ _ [0, 1, 2, 3, 4, 5, 6] _ _
            refine DL.qu 9 (.agg #[.int .i64 a0_0, .int .i64 a0_1, .int .i64 a0_2, .int .i64 a0_3]) rfl (f_loadA (j := 6) ty_a26 ty_s26 rfl rfl rfl rfl) ?_
            obtain ⟨t101, h102, h103⟩ := bind_some h100
            refine DL.qu 10 (.bool t101) rfl (f_call rfl rfl (args_val (vs := [.agg #[.int .i64 a0_0, .int .i64 a0_1, .int .i64 a0_2, .int .i64 a0_3]]) rfl) (fun w => enter22 _ w) (fun w => policy_MayCard.val h102 w)) ?_
            refine DL.pu 11 (.bool (!t101)) rfl (p_not rfl rfl) ?_
            refine DL.pu 12 (.bool (!t101)) rfl (p_move rfl rfl) ?_
            obtain ⟨q104, h105, h106⟩ := bind_some h103
            refine DL.cut [(2, ptr b1 0), (5, .func (.func 39) #[] #[ptr b9 0]), (15, .bool q104)] [] ?_ (fun J107 => ?_)
            · refine DL.nil ?_
              by_cases c111 : q104 = true
              · have h112 := ite_true c111 h106
                refine TT.cond_true (x := sub [1, 1, 0, 1, 0] B17) (y := sub [1, 1, 0, 1, 1] B17) rfl c111 ?_
                refine TT.seq (x := sub [1, 1, 0, 1, 0, 0] B17) (y := sub [1, 1, 0, 1, 0, 1] B17) ?_
                refine TT.region (id := 3) (n := 1) (ops := (opsOf (sub [1, 1, 0, 1, 0, 0] B17))) [(.pure, none)] rfl ?_
                show DL _ _ _ _ _ _ _ _ _ _ [0] _ _
                refine DL.pu 4 (.int .i64 2) rfl (p_assign rfl rfl) ?_
                refine DL.nil ?_
                obtain rfl := Option.some.inj h112
                exact ret1 Try.func17 rfl (ResV.tmp rfl) rfl
              · replace c111 := Bool.eq_false_iff.mpr c111
                have h113 := ite_false c111 h106
                refine TT.cond_false (x := sub [1, 1, 0, 1, 0] B17) (y := sub [1, 1, 0, 1, 1] B17) rfl c111 ?_
                refine TT.skip ?_
                refine TT.seq (x := sub [1, 1, 1, 0] B17) (y := sub [1, 1, 1, 1] B17) ?_
                refine TT.region (id := 4) (n := 5) (ops := (opsOf (sub [1, 1, 1, 0] B17))) [(.pure, none), (.quiet, none), (.quiet, none), (.quiet, none), (.pure, none)] rfl ?_
                show DL _ _ _ _ _ _ _ _ _ _ [0, 1, 2, 3, 4] _ _
                refine DL.pu 16 (.func (.func 39) #[] #[ptr b9 0]) rfl (p_move rfl rfl) ?_
                refine DL.qu 17 (.agg #[.int .i64 a0_0, .int .i64 a0_1, .int .i64 a0_2, .int .i64 a0_3]) rfl (f_loadA (j := 6) ty_a26 ty_s26 rfl rfl rfl rfl) ?_
                obtain ⟨t114, h115, h116⟩ := bind_some h113
                refine DL.qu 18 (.bool t114) rfl (f_callV (by simp) rfl rfl rfl (args_val (vs := [.agg #[.int .i64 a0_0, .int .i64 a0_1, .int .i64 a0_2, .int .i64 a0_3]]) rfl) (fun w => enter39 _ w) (fun w hc => policy_rules_1_1.val h115 w (box_own hc (i := 4) rfl))) ?_
                obtain ⟨t117, h118, h119⟩ := bind_some h116
                refine DL.qu 19 (.int .i64 t117) rfl (f_call rfl rfl (args_val (vs := [.bool t114]) rfl) (fun w => enter36 _ w) (fun w => policy_told.val h118 w)) ?_
                refine DL.pu 4 (.int .i64 t117) rfl (p_assign rfl rfl) ?_
                refine DL.nil ?_
                obtain rfl := Option.some.inj h119
                exact ret1 Try.func17 rfl (ResV.tmp rfl) rfl
            · by_cases c108 : (!t101) = true
              · have h109 := ite_true c108 h105
                refine DL.not (i := 4) rfl (Wn.yes c108 rfl rfl rfl rfl) rfl rfl ?_
                refine DL.not (i := 5) rfl (Wn.yes c108 rfl rfl rfl rfl) rfl rfl ?_
                refine DL.pu 15 (.bool true) rfl (p_pick_t c108 rfl rfl rfl) ?_
                obtain rfl := Option.some.inj h109
                exact DL.weak J107 (Sub.cons rfl (Sub.cons rfl (Sub.cons rfl (Sub.nil _))))
              · replace c108 := Bool.eq_false_iff.mpr c108
                have h110 := ite_false c108 h105
                refine DL.pure (v := .func (.func 39) #[] #[ptr b9 0]) rfl (Wn.no c108 rfl rfl rfl rfl) rfl rfl rfl (p_move rfl rfl) ?_
                refine DL.pure (v := .bool false) rfl (Wn.no c108 rfl rfl rfl rfl) rfl rfl rfl (p_eqNil (fun w => by kernel_rfl) (fun w => by kernel_rfl) rfl rfl rfl) ?_
                refine DL.pu 15 (.bool false) rfl (p_pick_f c108 rfl rfl rfl) ?_
                obtain rfl := Option.some.inj h110
                exact DL.weak J107 (Sub.cons rfl (Sub.cons rfl (Sub.cons rfl (Sub.nil _))))
          · replace c99 := Bool.eq_false_iff.mpr c99
            have h120 := ite_false c99 h98
            by_cases c121 : (a1 == 7) = true
            · have h122 := ite_true c121 h120
              refine DL.quiet (v := .func (.func 39) #[] #[ptr b8 0]) rfl (Wn.none rfl) rfl rfl rfl (f_lookupV (v := .func (.func 39) #[] #[ptr b8 0]) (by simp [mfind, c11, c33, c55, c77, c99, c121]) (f_lookup (a := a1) (j := 5) ty_u56 ty_u41 ty_z47 rfl rfl rfl rfl)) ?_
              refine DL.pu 5 (.func (.func 39) #[] #[ptr b8 0]) rfl (p_assign rfl rfl) ?_
              refine DL.nil ?_
              refine TT.seq (x := sub [1, 1, 0] B17) (y := sub [1, 1, 1] B17) ?_
              refine TT.seq (x := sub [1, 1, 0, 0] B17) (y := sub [1, 1, 0, 1] B17) ?_
              refine TT.region (id := 2) (n := 7) (ops := (opsOf (sub [1, 1, 0, 0] B17))) [(.quiet, none), (.quiet, none), (.pure, none), (.pure, none), (.pure, none), (.pure, none), (.pure, none)] rfl ?_
              show DL _ _ _ _ _ _ _ _ _ _ [0, 1, 2, 3, 4, 5, 6] _ _
              refine DL.qu 9 (.agg #[.int .i64 a0_0, .int .i64 a0_1, .int .i64 a0_2, .int .i64 a0_3]) rfl (f_loadA (j := 6) ty_a26 ty_s26 rfl rfl rfl rfl) ?_
              obtain ⟨t123, h124, h125⟩ := bind_some h122
              refine DL.qu 10 (.bool t123) rfl (f_call rfl rfl (args_val (vs := [.agg #[.int .i64 a0_0, .int .i64 a0_1, .int .i64 a0_2, .int .i64 a0_3]]) rfl) (fun w => enter22 _ w) (fun w => policy_MayCard.val h124 w)) ?_
              refine DL.pu 11 (.bool (!t123)) rfl (p_not rfl rfl) ?_
              refine DL.pu 12 (.bool (!t123)) rfl (p_move rfl rfl) ?_
              obtain ⟨q126, h127, h128⟩ := bind_some h125
              refine DL.cut [(2, ptr b1 0), (5, .func (.func 39) #[] #[ptr b8 0]), (15, .bool q126)] [] ?_ (fun J129 => ?_)
              · refine DL.nil ?_
                by_cases c133 : q126 = true
                · have h134 := ite_true c133 h128
                  refine TT.cond_true (x := sub [1, 1, 0, 1, 0] B17) (y := sub [1, 1, 0, 1, 1] B17) rfl c133 ?_
                  refine TT.seq (x := sub [1, 1, 0, 1, 0, 0] B17) (y := sub [1, 1, 0, 1, 0, 1] B17) ?_
                  refine TT.region (id := 3) (n := 1) (ops := (opsOf (sub [1, 1, 0, 1, 0, 0] B17))) [(.pure, none)] rfl ?_
                  show DL _ _ _ _ _ _ _ _ _ _ [0] _ _
                  refine DL.pu 4 (.int .i64 2) rfl (p_assign rfl rfl) ?_
                  refine DL.nil ?_
                  obtain rfl := Option.some.inj h134
                  exact ret1 Try.func17 rfl (ResV.tmp rfl) rfl
                · replace c133 := Bool.eq_false_iff.mpr c133
                  have h135 := ite_false c133 h128
                  refine TT.cond_false (x := sub [1, 1, 0, 1, 0] B17) (y := sub [1, 1, 0, 1, 1] B17) rfl c133 ?_
                  refine TT.skip ?_
                  refine TT.seq (x := sub [1, 1, 1, 0] B17) (y := sub [1, 1, 1, 1] B17) ?_
                  refine TT.region (id := 4) (n := 5) (ops := (opsOf (sub [1, 1, 1, 0] B17))) [(.pure, none), (.quiet, none), (.quiet, none), (.quiet, none), (.pure, none)] rfl ?_
                  show DL _ _ _ _ _ _ _ _ _ _ [0, 1, 2, 3, 4] _ _
                  refine DL.pu 16 (.func (.func 39) #[] #[ptr b8 0]) rfl (p_move rfl rfl) ?_
                  refine DL.qu 17 (.agg #[.int .i64 a0_0, .int .i64 a0_1, .int .i64 a0_2, .int .i64 a0_3]) rfl (f_loadA (j := 6) ty_a26 ty_s26 rfl rfl rfl rfl) ?_
                  obtain ⟨t136, h137, h138⟩ := bind_some h135
                  refine DL.qu 18 (.bool t136) rfl (f_callV (by simp) rfl rfl rfl (args_val (vs := [.agg #[.int .i64 a0_0, .int .i64 a0_1, .int .i64 a0_2, .int .i64 a0_3]]) rfl) (fun w => enter39 _ w) (fun w hc => policy_rules_1_1.val h137 w (box_own hc (i := 3) rfl))) ?_
                  obtain ⟨t139, h140, h141⟩ := bind_some h138
                  refine DL.qu 19 (.int .i64 t139) rfl (f_call rfl rfl (args_val (vs := [.bool t136]) rfl) (fun w => enter36 _ w) (fun w => policy_told.val h140 w)) ?_
                  refine DL.pu 4 (.int .i64 t139) rfl (p_assign rfl rfl) ?_
                  refine DL.nil ?_
                  obtain rfl := Option.some.inj h141
                  exact ret1 Try.func17 rfl (ResV.tmp rfl) rfl
              · by_cases c130 : (!t123) = true
                · have h131 := ite_true c130 h127
                  refine DL.not (i := 4) rfl (Wn.yes c130 rfl rfl rfl rfl) rfl rfl ?_
                  refine DL.not (i := 5) rfl (Wn.yes c130 rfl rfl rfl rfl) rfl rfl ?_
                  refine DL.pu 15 (.bool true) rfl (p_pick_t c130 rfl rfl rfl) ?_
                  obtain rfl := Option.some.inj h131
                  exact DL.weak J129 (Sub.cons rfl (Sub.cons rfl (Sub.cons rfl (Sub.nil _))))
                · replace c130 := Bool.eq_false_iff.mpr c130
                  have h132 := ite_false c130 h127
                  refine DL.pure (v := .func (.func 39) #[] #[ptr b8 0]) rfl (Wn.no c130 rfl rfl rfl rfl) rfl rfl rfl (p_move rfl rfl) ?_
                  refine DL.pure (v := .bool false) rfl (Wn.no c130 rfl rfl rfl rfl) rfl rfl rfl (p_eqNil (fun w => by kernel_rfl) (fun w => by kernel_rfl) rfl rfl rfl) ?_
                  refine DL.pu 15 (.bool false) rfl (p_pick_f c130 rfl rfl rfl) ?_
                  obtain rfl := Option.some.inj h132
                  exact DL.weak J129 (Sub.cons rfl (Sub.cons rfl (Sub.cons rfl (Sub.nil _))))
            · replace c121 := Bool.eq_false_iff.mpr c121
              have h142 := ite_false c121 h120
              by_cases c143 : (a1 == 8) = true
              · have h144 := ite_true c143 h142
                refine DL.quiet (v := .func (.func 39) #[] #[ptr b7 0]) rfl (Wn.none rfl) rfl rfl rfl (f_lookupV (v := .func (.func 39) #[] #[ptr b7 0]) (by simp [mfind, c11, c33, c55, c77, c99, c121, c143]) (f_lookup (a := a1) (j := 5) ty_u56 ty_u41 ty_z47 rfl rfl rfl rfl)) ?_
                refine DL.pu 5 (.func (.func 39) #[] #[ptr b7 0]) rfl (p_assign rfl rfl) ?_
                refine DL.nil ?_
                refine TT.seq (x := sub [1, 1, 0] B17) (y := sub [1, 1, 1] B17) ?_
                refine TT.seq (x := sub [1, 1, 0, 0] B17) (y := sub [1, 1, 0, 1] B17) ?_
                refine TT.region (id := 2) (n := 7) (ops := (opsOf (sub [1, 1, 0, 0] B17))) [(.quiet, none), (.quiet, none), (.pure, none), (.pure, none), (.pure, none), (.pure, none), (.pure, none)] rfl ?_
                show DL _ _ _ _ _ _ _ _ _ _ [0, 1, 2, 3, 4, 5, 6] _ _
                refine DL.qu 9 (.agg #[.int .i64 a0_0, .int .i64 a0_1, .int .i64 a0_2, .int .i64 a0_3]) rfl (f_loadA (j := 6) ty_a26 ty_s26 rfl rfl rfl rfl) ?_
                obtain ⟨t145, h146, h147⟩ := bind_some h144
                refine DL.qu 10 (.bool t145) rfl (f_call rfl rfl (args_val (vs := [.agg #[.int .i64 a0_0, .int .i64 a0_1, .int .i64 a0_2, .int .i64 a0_3]]) rfl) (fun w => enter22 _ w) (fun w => policy_MayCard.val h146 w)) ?_
                refine DL.pu 11 (.bool (!t145)) rfl (p_not rfl rfl) ?_
                refine DL.pu 12 (.bool (!t145)) rfl (p_move rfl rfl) ?_
                obtain ⟨q148, h149, h150⟩ := bind_some h147
                refine DL.cut [(2, ptr b1 0), (5, .func (.func 39) #[] #[ptr b7 0]), (15, .bool q148)] [] ?_ (fun J151 => ?_)
                · refine DL.nil ?_
                  by_cases c155 : q148 = true
                  · have h156 := ite_true c155 h150
                    refine TT.cond_true (x := sub [1, 1, 0, 1, 0] B17) (y := sub [1, 1, 0, 1, 1] B17) rfl c155 ?_
                    refine TT.seq (x := sub [1, 1, 0, 1, 0, 0] B17) (y := sub [1, 1, 0, 1, 0, 1] B17) ?_
                    refine TT.region (id := 3) (n := 1) (ops := (opsOf (sub [1, 1, 0, 1, 0, 0] B17))) [(.pure, none)] rfl ?_
                    show DL _ _ _ _ _ _ _ _ _ _ [0] _ _
                    refine DL.pu 4 (.int .i64 2) rfl (p_assign rfl rfl) ?_
                    refine DL.nil ?_
                    obtain rfl := Option.some.inj h156
                    exact ret1 Try.func17 rfl (ResV.tmp rfl) rfl
                  · replace c155 := Bool.eq_false_iff.mpr c155
                    have h157 := ite_false c155 h150
                    refine TT.cond_false (x := sub [1, 1, 0, 1, 0] B17) (y := sub [1, 1, 0, 1, 1] B17) rfl c155 ?_
                    refine TT.skip ?_
                    refine TT.seq (x := sub [1, 1, 1, 0] B17) (y := sub [1, 1, 1, 1] B17) ?_
                    refine TT.region (id := 4) (n := 5) (ops := (opsOf (sub [1, 1, 1, 0] B17))) [(.pure, none), (.quiet, none), (.quiet, none), (.quiet, none), (.pure, none)] rfl ?_
                    show DL _ _ _ _ _ _ _ _ _ _ [0, 1, 2, 3, 4] _ _
                    refine DL.pu 16 (.func (.func 39) #[] #[ptr b7 0]) rfl (p_move rfl rfl) ?_
                    refine DL.qu 17 (.agg #[.int .i64 a0_0, .int .i64 a0_1, .int .i64 a0_2, .int .i64 a0_3]) rfl (f_loadA (j := 6) ty_a26 ty_s26 rfl rfl rfl rfl) ?_
                    obtain ⟨t158, h159, h160⟩ := bind_some h157
                    refine DL.qu 18 (.bool t158) rfl (f_callV (by simp) rfl rfl rfl (args_val (vs := [.agg #[.int .i64 a0_0, .int .i64 a0_1, .int .i64 a0_2, .int .i64 a0_3]]) rfl) (fun w => enter39 _ w) (fun w hc => policy_rules_1_1.val h159 w (box_own hc (i := 2) rfl))) ?_
                    obtain ⟨t161, h162, h163⟩ := bind_some h160
                    refine DL.qu 19 (.int .i64 t161) rfl (f_call rfl rfl (args_val (vs := [.bool t158]) rfl) (fun w => enter36 _ w) (fun w => policy_told.val h162 w)) ?_
                    refine DL.pu 4 (.int .i64 t161) rfl (p_assign rfl rfl) ?_
                    refine DL.nil ?_
                    obtain rfl := Option.some.inj h163
                    exact ret1 Try.func17 rfl (ResV.tmp rfl) rfl
                · by_cases c152 : (!t145) = true
                  · have h153 := ite_true c152 h149
                    refine DL.not (i := 4) rfl (Wn.yes c152 rfl rfl rfl rfl) rfl rfl ?_
                    refine DL.not (i := 5) rfl (Wn.yes c152 rfl rfl rfl rfl) rfl rfl ?_
                    refine DL.pu 15 (.bool true) rfl (p_pick_t c152 rfl rfl rfl) ?_
                    obtain rfl := Option.some.inj h153
                    exact DL.weak J151 (Sub.cons rfl (Sub.cons rfl (Sub.cons rfl (Sub.nil _))))
                  · replace c152 := Bool.eq_false_iff.mpr c152
                    have h154 := ite_false c152 h149
                    refine DL.pure (v := .func (.func 39) #[] #[ptr b7 0]) rfl (Wn.no c152 rfl rfl rfl rfl) rfl rfl rfl (p_move rfl rfl) ?_
                    refine DL.pure (v := .bool false) rfl (Wn.no c152 rfl rfl rfl rfl) rfl rfl rfl (p_eqNil (fun w => by kernel_rfl) (fun w => by kernel_rfl) rfl rfl rfl) ?_
                    refine DL.pu 15 (.bool false) rfl (p_pick_f c152 rfl rfl rfl) ?_
                    obtain rfl := Option.some.inj h154
                    exact DL.weak J151 (Sub.cons rfl (Sub.cons rfl (Sub.cons rfl (Sub.nil _))))
              · replace c143 := Bool.eq_false_iff.mpr c143
                have h164 := ite_false c143 h142
                by_cases c165 : (a1 == 9) = true
                · have h166 := ite_true c165 h164
                  refine DL.quiet (v := .func (.func 39) #[] #[ptr b6 0]) rfl (Wn.none rfl) rfl rfl rfl (f_lookupV (v := .func (.func 39) #[] #[ptr b6 0]) (by simp [mfind, c11, c33, c55, c77, c99, c121, c143, c165]) (f_lookup (a := a1) (j := 5) ty_u56 ty_u41 ty_z47 rfl rfl rfl rfl)) ?_
                  refine DL.pu 5 (.func (.func 39) #[] #[ptr b6 0]) rfl (p_assign rfl rfl) ?_
                  refine DL.nil ?_
                  refine TT.seq (x := sub [1, 1, 0] B17) (y := sub [1, 1, 1] B17) ?_
                  refine TT.seq (x := sub [1, 1, 0, 0] B17) (y := sub [1, 1, 0, 1] B17) ?_
                  refine TT.region (id := 2) (n := 7) (ops := (opsOf (sub [1, 1, 0, 0] B17))) [(.quiet, none), (.quiet, none), (.pure, none), (.pure, none), (.pure, none), (.pure, none), (.pure, none)] rfl ?_
                  show DL _ _ _ _ _ _ _ _ _ _ [0, 1, 2, 3, 4, 5, 6] _ _
                  refine DL.qu 9 (.agg #[.int .i64 a0_0, .int .i64 a0_1, .int .i64 a0_2, .int .i64 a0_3]) rfl (f_loadA (j := 6) ty_a26 ty_s26 rfl rfl rfl rfl) ?_
                  obtain ⟨t167, h168, h169⟩ := bind_some h166
                  refine DL.qu 10 (.bool t167) rfl (f_call rfl rfl (args_val (vs := [.agg #[.int .i64 a0_0, .int .i64 a0_1, .int .i64 a0_2, .int .i64 a0_3]]) rfl) (fun w => enter22 _ w) (fun w => policy_MayCard.val h168 w)) ?_
                  refine DL.pu 11 (.bool (!t167)) rfl (p_not rfl rfl) ?_
                  refine DL.pu 12 (.bool (!t167)) rfl (p_move rfl rfl) ?_
                  obtain ⟨q170, h171, h172⟩ := bind_some h169
                  refine DL.cut [(2, ptr b1 0), (5, .func (.func 39) #[] #[ptr b6 0]), (15, .bool q170)] [] ?_ (fun J173 => ?_)
                  · refine DL.nil ?_
                    by_cases c177 : q170 = true
                    · have h178 := ite_true c177 h172
                      refine TT.cond_true (x := sub [1, 1, 0, 1, 0] B17) (y := sub [1, 1, 0, 1, 1] B17) rfl c177 ?_
                      refine TT.seq (x := sub [1, 1, 0, 1, 0, 0] B17) (y := sub [1, 1, 0, 1, 0, 1] B17) ?_
                      refine TT.region (id := 3) (n := 1) (ops := (opsOf (sub [1, 1, 0, 1, 0, 0] B17))) [(.pure, none)] rfl ?_
                      show DL _ _ _ _ _ _ _ _ _ _ [0] _ _
                      refine DL.pu 4 (.int .i64 2) rfl (p_assign rfl rfl) ?_
                      refine DL.nil ?_
                      obtain rfl := Option.some.inj h178
                      exact ret1 Try.func17 rfl (ResV.tmp rfl) rfl
                    · replace c177 := Bool.eq_false_iff.mpr c177
                      have h179 := ite_false c177 h172
                      refine TT.cond_false (x := sub [1, 1, 0, 1, 0] B17) (y := sub [1, 1, 0, 1, 1] B17) rfl c177 ?_
                      refine TT.skip ?_
                      refine TT.seq (x := sub [1, 1, 1, 0] B17) (y := sub [1, 1, 1, 1] B17) ?_
                      refine TT.region (id := 4) (n := 5) (ops := (opsOf (sub [1, 1, 1, 0] B17))) [(.pure, none), (.quiet, none), (.quiet, none), (.quiet, none), (.pure, none)] rfl ?_
                      show DL _ _ _ _ _ _ _ _ _ _ [0, 1, 2, 3, 4] _ _
                      refine DL.pu 16 (.func (.func 39) #[] #[ptr b6 0]) rfl (p_move rfl rfl) ?_
                      refine DL.qu 17 (.agg #[.int .i64 a0_0, .int .i64 a0_1, .int .i64 a0_2, .int .i64 a0_3]) rfl (f_loadA (j := 6) ty_a26 ty_s26 rfl rfl rfl rfl) ?_
                      obtain ⟨t180, h181, h182⟩ := bind_some h179
                      refine DL.qu 18 (.bool t180) rfl (f_callV (by simp) rfl rfl rfl (args_val (vs := [.agg #[.int .i64 a0_0, .int .i64 a0_1, .int .i64 a0_2, .int .i64 a0_3]]) rfl) (fun w => enter39 _ w) (fun w hc => policy_rules_1_1.val h181 w (box_own hc (i := 1) rfl))) ?_
                      obtain ⟨t183, h184, h185⟩ := bind_some h182
                      refine DL.qu 19 (.int .i64 t183) rfl (f_call rfl rfl (args_val (vs := [.bool t180]) rfl) (fun w => enter36 _ w) (fun w => policy_told.val h184 w)) ?_
                      refine DL.pu 4 (.int .i64 t183) rfl (p_assign rfl rfl) ?_
                      refine DL.nil ?_
                      obtain rfl := Option.some.inj h185
                      exact ret1 Try.func17 rfl (ResV.tmp rfl) rfl
                  · by_cases c174 : (!t167) = true
                    · have h175 := ite_true c174 h171
                      refine DL.not (i := 4) rfl (Wn.yes c174 rfl rfl rfl rfl) rfl rfl ?_
                      refine DL.not (i := 5) rfl (Wn.yes c174 rfl rfl rfl rfl) rfl rfl ?_
                      refine DL.pu 15 (.bool true) rfl (p_pick_t c174 rfl rfl rfl) ?_
                      obtain rfl := Option.some.inj h175
                      exact DL.weak J173 (Sub.cons rfl (Sub.cons rfl (Sub.cons rfl (Sub.nil _))))
                    · replace c174 := Bool.eq_false_iff.mpr c174
                      have h176 := ite_false c174 h171
                      refine DL.pure (v := .func (.func 39) #[] #[ptr b6 0]) rfl (Wn.no c174 rfl rfl rfl rfl) rfl rfl rfl (p_move rfl rfl) ?_
                      refine DL.pure (v := .bool false) rfl (Wn.no c174 rfl rfl rfl rfl) rfl rfl rfl (p_eqNil (fun w => by kernel_rfl) (fun w => by kernel_rfl) rfl rfl rfl) ?_
                      refine DL.pu 15 (.bool false) rfl (p_pick_f c174 rfl rfl rfl) ?_
                      obtain rfl := Option.some.inj h176
                      exact DL.weak J173 (Sub.cons rfl (Sub.cons rfl (Sub.cons rfl (Sub.nil _))))
                · replace c165 := Bool.eq_false_iff.mpr c165
                  have h186 := ite_false c165 h164
                  by_cases c187 : (a1 == 12) = true
                  · have h188 := ite_true c187 h186
                    refine DL.quiet (v := .func (.func 39) #[] #[ptr b5 0]) rfl (Wn.none rfl) rfl rfl rfl (f_lookupV (v := .func (.func 39) #[] #[ptr b5 0]) (by simp [mfind, c11, c33, c55, c77, c99, c121, c143, c165, c187]) (f_lookup (a := a1) (j := 5) ty_u56 ty_u41 ty_z47 rfl rfl rfl rfl)) ?_
                    refine DL.pu 5 (.func (.func 39) #[] #[ptr b5 0]) rfl (p_assign rfl rfl) ?_
                    refine DL.nil ?_
                    refine TT.seq (x := sub [1, 1, 0] B17) (y := sub [1, 1, 1] B17) ?_
                    refine TT.seq (x := sub [1, 1, 0, 0] B17) (y := sub [1, 1, 0, 1] B17) ?_
                    refine TT.region (id := 2) (n := 7) (ops := (opsOf (sub [1, 1, 0, 0] B17))) [(.quiet, none), (.quiet, none), (.pure, none), (.pure, none), (.pure, none), (.pure, none), (.pure, none)] rfl ?_
                    show DL _ _ _ _ _ _ _ _ _ _ [0, 1, 2, 3, 4, 5, 6] _ _
                    refine DL.qu 9 (.agg #[.int .i64 a0_0, .int .i64 a0_1, .int .i64 a0_2, .int .i64 a0_3]) rfl (f_loadA (j := 6) ty_a26 ty_s26 rfl rfl rfl rfl) ?_
                    obtain ⟨t189, h190, h191⟩ := bind_some h188
                    refine DL.qu 10 (.bool t189) rfl (f_call rfl rfl (args_val (vs := [.agg #[.int .i64 a0_0, .int .i64 a0_1, .int .i64 a0_2, .int .i64 a0_3]]) rfl) (fun w => enter22 _ w) (fun w => policy_MayCard.val h190 w)) ?_
                    refine DL.pu 11 (.bool (!t189)) rfl (p_not rfl rfl) ?_
                    refine DL.pu 12 (.bool (!t189)) rfl (p_move rfl rfl) ?_
                    obtain ⟨q192, h193, h194⟩ := bind_some h191
                    refine DL.cut [(2, ptr b1 0), (5, .func (.func 39) #[] #[ptr b5 0]), (15, .bool q192)] [] ?_ (fun J195 => ?_)
                    · refine DL.nil ?_
                      by_cases c199 : q192 = true
                      · have h200 := ite_true c199 h194
                        refine TT.cond_true (x := sub [1, 1, 0, 1, 0] B17) (y := sub [1, 1, 0, 1, 1] B17) rfl c199 ?_
                        refine TT.seq (x := sub [1, 1, 0, 1, 0, 0] B17) (y := sub [1, 1, 0, 1, 0, 1] B17) ?_
                        refine TT.region (id := 3) (n := 1) (ops := (opsOf (sub [1, 1, 0, 1, 0, 0] B17))) [(.pure, none)] rfl ?_
                        show DL _ _ _ _ _ _ _ _ _ _ [0] _ _
                        refine DL.pu 4 (.int .i64 2) rfl (p_assign rfl rfl) ?_
                        refine DL.nil ?_
                        obtain rfl := Option.some.inj h200
                        exact ret1 Try.func17 rfl (ResV.tmp rfl) rfl
                      · replace c199 := Bool.eq_false_iff.mpr c199
                        have h201 := ite_false c199 h194
                        refine TT.cond_false (x := sub [1, 1, 0, 1, 0] B17) (y := sub [1, 1, 0, 1, 1] B17) rfl c199 ?_
                        refine TT.skip ?_
                        refine TT.seq (x := sub [1, 1, 1, 0] B17) (y := sub [1, 1, 1, 1] B17) ?_
                        refine TT.region (id := 4) (n := 5) (ops := (opsOf (sub [1, 1, 1, 0] B17))) [(.pure, none), (.quiet, none), (.quiet, none), (.quiet, none), (.pure, none)] rfl ?_
                        show DL _ _ _ _ _ _ _ _ _ _ [0, 1, 2, 3, 4] _ _
                        refine DL.pu 16 (.func (.func 39) #[] #[ptr b5 0]) rfl (p_move rfl rfl) ?_
                        refine DL.qu 17 (.agg #[.int .i64 a0_0, .int .i64 a0_1, .int .i64 a0_2, .int .i64 a0_3]) rfl (f_loadA (j := 6) ty_a26 ty_s26 rfl rfl rfl rfl) ?_
                        obtain ⟨t202, h203, h204⟩ := bind_some h201
                        refine DL.qu 18 (.bool t202) rfl (f_callV (by simp) rfl rfl rfl (args_val (vs := [.agg #[.int .i64 a0_0, .int .i64 a0_1, .int .i64 a0_2, .int .i64 a0_3]]) rfl) (fun w => enter39 _ w) (fun w hc => policy_rules_1_1.val h203 w (box_own hc (i := 0) rfl))) ?_
                        obtain ⟨t205, h206, h207⟩ := bind_some h204
                        refine DL.qu 19 (.int .i64 t205) rfl (f_call rfl rfl (args_val (vs := [.bool t202]) rfl) (fun w => enter36 _ w) (fun w => policy_told.val h206 w)) ?_
                        refine DL.pu 4 (.int .i64 t205) rfl (p_assign rfl rfl) ?_
                        refine DL.nil ?_
                        obtain rfl := Option.some.inj h207
                        exact ret1 Try.func17 rfl (ResV.tmp rfl) rfl
                    · by_cases c196 : (!t189) = true
                      · have h197 := ite_true c196 h193
                        refine DL.not (i := 4) rfl (Wn.yes c196 rfl rfl rfl rfl) rfl rfl ?_
                        refine DL.not (i := 5) rfl (Wn.yes c196 rfl rfl rfl rfl) rfl rfl ?_
                        refine DL.pu 15 (.bool true) rfl (p_pick_t c196 rfl rfl rfl) ?_
                        obtain rfl := Option.some.inj h197
                        exact DL.weak J195 (Sub.cons rfl (Sub.cons rfl (Sub.cons rfl (Sub.nil _))))
                      · replace c196 := Bool.eq_false_iff.mpr c196
                        have h198 := ite_false c196 h193
                        refine DL.pure (v := .func (.func 39) #[] #[ptr b5 0]) rfl (Wn.no c196 rfl rfl rfl rfl) rfl rfl rfl (p_move rfl rfl) ?_
                        refine DL.pure (v := .bool false) rfl (Wn.no c196 rfl rfl rfl rfl) rfl rfl rfl (p_eqNil (fun w => by kernel_rfl) (fun w => by kernel_rfl) rfl rfl rfl) ?_
                        refine DL.pu 15 (.bool false) rfl (p_pick_f c196 rfl rfl rfl) ?_
                        obtain rfl := Option.some.inj h198
                        exact DL.weak J195 (Sub.cons rfl (Sub.cons rfl (Sub.cons rfl (Sub.nil _))))
                  · replace c187 := Bool.eq_false_iff.mpr c187
                    have h208 := ite_false c187 h186
                    by_cases c209 : (a1 == 13) = true
                    · have h210 := ite_true c209 h208
                      refine DL.quiet (v := .func (.func 42) #[] #[]) rfl (Wn.none rfl) rfl rfl rfl (f_lookupV (v := .func (.func 42) #[] #[]) (by simp [mfind, c11, c33, c55, c77, c99, c121, c143, c165, c187, c209]) (f_lookup (a := a1) (j := 5) ty_u56 ty_u41 ty_z47 rfl rfl rfl rfl)) ?_
                      refine DL.pu 5 (.func (.func 42) #[] #[]) rfl (p_assign rfl rfl) ?_
                      refine DL.nil ?_
                      refine TT.seq (x := sub [1, 1, 0] B17) (y := sub [1, 1, 1] B17) ?_
                      refine TT.seq (x := sub [1, 1, 0, 0] B17) (y := sub [1, 1, 0, 1] B17) ?_
                      refine TT.region (id := 2) (n := 7) (ops := (opsOf (sub [1, 1, 0, 0] B17))) [(.quiet, none), (.quiet, none), (.pure, none), (.pure, none), (.pure, none), (.pure, none), (.pure, none)] rfl ?_
                      show DL _ _ _ _ _ _ _ _ _ _ [0, 1, 2, 3, 4, 5, 6] _ _
                      refine DL.qu 9 (.agg #[.int .i64 a0_0, .int .i64 a0_1, .int .i64 a0_2, .int .i64 a0_3]) rfl (f_loadA (j := 6) ty_a26 ty_s26 rfl rfl rfl rfl) ?_
                      obtain ⟨t211, h212, h213⟩ := bind_some h210
                      refine DL.qu 10 (.bool t211) rfl (f_call rfl rfl (args_val (vs := [.agg #[.int .i64 a0_0, .int .i64 a0_1, .int .i64 a0_2, .int .i64 a0_3]]) rfl) (fun w => enter22 _ w) (fun w => policy_MayCard.val h212 w)) ?_
                      refine DL.pu 11 (.bool (!t211)) rfl (p_not rfl rfl) ?_
                      refine DL.pu 12 (.bool (!t211)) rfl (p_move rfl rfl) ?_
                      obtain ⟨q214, h215, h216⟩ := bind_some h213
                      refine DL.cut [(2, ptr b1 0), (5, .func (.func 42) #[] #[]), (15, .bool q214)] [] ?_ (fun J217 => ?_)
                      · refine DL.nil ?_
                        by_cases c221 : q214 = true
                        · have h222 := ite_true c221 h216
                          refine TT.cond_true (x := sub [1, 1, 0, 1, 0] B17) (y := sub [1, 1, 0, 1, 1] B17) rfl c221 ?_
                          refine TT.seq (x := sub [1, 1, 0, 1, 0, 0] B17) (y := sub [1, 1, 0, 1, 0, 1] B17) ?_
                          refine TT.region (id := 3) (n := 1) (ops := (opsOf (sub [1, 1, 0, 1, 0, 0] B17))) [(.pure, none)] rfl ?_
                          show DL _ _ _ _ _ _ _ _ _ _ [0] _ _
                          refine DL.pu 4 (.int .i64 2) rfl (p_assign rfl rfl) ?_
                          refine DL.nil ?_
                          obtain rfl := Option.some.inj h222
                          exact ret1 Try.func17 rfl (ResV.tmp rfl) rfl
                        · replace c221 := Bool.eq_false_iff.mpr c221
                          have h223 := ite_false c221 h216
                          refine TT.cond_false (x := sub [1, 1, 0, 1, 0] B17) (y := sub [1, 1, 0, 1, 1] B17) rfl c221 ?_
                          refine TT.skip ?_
                          refine TT.seq (x := sub [1, 1, 1, 0] B17) (y := sub [1, 1, 1, 1] B17) ?_
                          refine TT.region (id := 4) (n := 5) (ops := (opsOf (sub [1, 1, 1, 0] B17))) [(.pure, none), (.quiet, none), (.quiet, none), (.quiet, none), (.pure, none)] rfl ?_
                          show DL _ _ _ _ _ _ _ _ _ _ [0, 1, 2, 3, 4] _ _
                          refine DL.pu 16 (.func (.func 42) #[] #[]) rfl (p_move rfl rfl) ?_
                          refine DL.qu 17 (.agg #[.int .i64 a0_0, .int .i64 a0_1, .int .i64 a0_2, .int .i64 a0_3]) rfl (f_loadA (j := 6) ty_a26 ty_s26 rfl rfl rfl rfl) ?_
                          obtain ⟨t224, h225, h226⟩ := bind_some h223
                          refine DL.qu 18 (.bool t224) rfl (f_callV (by simp) rfl rfl rfl (args_val (vs := [.agg #[.int .i64 a0_0, .int .i64 a0_1, .int .i64 a0_2, .int .i64 a0_3]]) rfl) (fun w => enter42 _ w) (fun w hc => policy_rules_4.val h225 w )) ?_
                          obtain ⟨t227, h228, h229⟩ := bind_some h226
                          refine DL.qu 19 (.int .i64 t227) rfl (f_call rfl rfl (args_val (vs := [.bool t224]) rfl) (fun w => enter36 _ w) (fun w => policy_told.val h228 w)) ?_
                          refine DL.pu 4 (.int .i64 t227) rfl (p_assign rfl rfl) ?_
                          refine DL.nil ?_
                          obtain rfl := Option.some.inj h229
                          exact ret1 Try.func17 rfl (ResV.tmp rfl) rfl
                      · by_cases c218 : (!t211) = true
                        · have h219 := ite_true c218 h215
                          refine DL.not (i := 4) rfl (Wn.yes c218 rfl rfl rfl rfl) rfl rfl ?_
                          refine DL.not (i := 5) rfl (Wn.yes c218 rfl rfl rfl rfl) rfl rfl ?_
                          refine DL.pu 15 (.bool true) rfl (p_pick_t c218 rfl rfl rfl) ?_
                          obtain rfl := Option.some.inj h219
                          exact DL.weak J217 (Sub.cons rfl (Sub.cons rfl (Sub.cons rfl (Sub.nil _))))
                        · replace c218 := Bool.eq_false_iff.mpr c218
                          have h220 := ite_false c218 h215
                          refine DL.pure (v := .func (.func 42) #[] #[]) rfl (Wn.no c218 rfl rfl rfl rfl) rfl rfl rfl (p_move rfl rfl) ?_
                          refine DL.pure (v := .bool false) rfl (Wn.no c218 rfl rfl rfl rfl) rfl rfl rfl (p_eqNil (fun w => by kernel_rfl) (fun w => by kernel_rfl) rfl rfl rfl) ?_
                          refine DL.pu 15 (.bool false) rfl (p_pick_f c218 rfl rfl rfl) ?_
                          obtain rfl := Option.some.inj h220
                          exact DL.weak J217 (Sub.cons rfl (Sub.cons rfl (Sub.cons rfl (Sub.nil _))))
                    · replace c209 := Bool.eq_false_iff.mpr c209
                      have h230 := ite_false c209 h208
                      refine DL.quiet (v := .nilFunc) rfl (Wn.none rfl) rfl rfl rfl (f_lookupV (v := .nilFunc) (by simp [mfind, c11, c33, c55, c77, c99, c121, c143, c165, c187, c209]) (f_lookup (a := a1) (j := 5) ty_u56 ty_u41 ty_z47 rfl rfl rfl rfl)) ?_
                      refine DL.pu 5 (.nilFunc) rfl (p_assign rfl rfl) ?_
                      refine DL.nil ?_
                      refine TT.seq (x := sub [1, 1, 0] B17) (y := sub [1, 1, 1] B17) ?_
                      refine TT.seq (x := sub [1, 1, 0, 0] B17) (y := sub [1, 1, 0, 1] B17) ?_
                      refine TT.region (id := 2) (n := 7) (ops := (opsOf (sub [1, 1, 0, 0] B17))) [(.quiet, none), (.quiet, none), (.pure, none), (.pure, none), (.pure, none), (.pure, none), (.pure, none)] rfl ?_
                      show DL _ _ _ _ _ _ _ _ _ _ [0, 1, 2, 3, 4, 5, 6] _ _
                      refine DL.qu 9 (.agg #[.int .i64 a0_0, .int .i64 a0_1, .int .i64 a0_2, .int .i64 a0_3]) rfl (f_loadA (j := 6) ty_a26 ty_s26 rfl rfl rfl rfl) ?_
                      obtain ⟨t231, h232, h233⟩ := bind_some h230
                      refine DL.qu 10 (.bool t231) rfl (f_call rfl rfl (args_val (vs := [.agg #[.int .i64 a0_0, .int .i64 a0_1, .int .i64 a0_2, .int .i64 a0_3]]) rfl) (fun w => enter22 _ w) (fun w => policy_MayCard.val h232 w)) ?_
                      refine DL.pu 11 (.bool (!t231)) rfl (p_not rfl rfl) ?_
                      refine DL.pu 12 (.bool (!t231)) rfl (p_move rfl rfl) ?_
                      obtain ⟨q234, h235, h236⟩ := bind_some h233
                      refine DL.cut [(2, ptr b1 0), (5, .nilFunc), (15, .bool true)] [] ?_ (fun J237 => ?_)
                      · refine DL.nil ?_
                        refine TT.cond_true (x := sub [1, 1, 0, 1, 0] B17) (y := sub [1, 1, 0, 1, 1] B17) rfl rfl ?_
                        refine TT.seq (x := sub [1, 1, 0, 1, 0, 0] B17) (y := sub [1, 1, 0, 1, 0, 1] B17) ?_
                        refine TT.region (id := 3) (n := 1) (ops := (opsOf (sub [1, 1, 0, 1, 0, 0] B17))) [(.pure, none)] rfl ?_
                        show DL _ _ _ _ _ _ _ _ _ _ [0] _ _
                        refine DL.pu 4 (.int .i64 2) rfl (p_assign rfl rfl) ?_
                        refine DL.nil ?_
                        obtain rfl := Option.some.inj h236
                        exact ret1 Try.func17 rfl (ResV.tmp rfl) rfl
                      · by_cases c238 : (!t231) = true
                        · have h239 := ite_true c238 h235
                          refine DL.not (i := 4) rfl (Wn.yes c238 rfl rfl rfl rfl) rfl rfl ?_
                          refine DL.not (i := 5) rfl (Wn.yes c238 rfl rfl rfl rfl) rfl rfl ?_
                          refine DL.pu 15 (.bool true) rfl (p_pick_t c238 rfl rfl rfl) ?_
                          exact DL.weak J237 (Sub.cons rfl (Sub.cons rfl (Sub.cons rfl (Sub.nil _))))
                        · replace c238 := Bool.eq_false_iff.mpr c238
                          have h240 := ite_false c238 h235
                          refine DL.pure (v := .nilFunc) rfl (Wn.no c238 rfl rfl rfl rfl) rfl rfl rfl (p_move rfl rfl) ?_
                          refine DL.pure (v := .bool true) rfl (Wn.no c238 rfl rfl rfl rfl) rfl rfl rfl (p_eqNil (fun w => by kernel_rfl) (fun w => by kernel_rfl) rfl rfl rfl) ?_
                          refine DL.pu 15 (.bool true) rfl (p_pick_f c238 rfl rfl rfl) ?_
                          exact DL.weak J237 (Sub.cons rfl (Sub.cons rfl (Sub.cons rfl (Sub.nil _))))
theorem policy_Asked.val {a0_0 : Int} {a0_1 : Int} {a0_2 : Int} {a0_3 : Int} {a1 : Int} {r : Int} (h : policy_Asked.f a0_0 a0_1 a0_2 a0_3 a1 = some r) (w : World) : Calls Try.prog 17 #[.agg #[.int .i64 a0_0, .int .i64 a0_1, .int .i64 a0_2, .int .i64 a0_3], .int .i64 a1] w fun e w' => e = .returned (.int .i64 r) ∧ Below w.heap.size w w' :=
  calls_value (policy_Asked.ok h w)

/-! ### escutcheon/escutcheonref21.Asked: function 18 -/
noncomputable def B18 : Code := bodyOf Try.f18
def ref21_Asked.f (a0_0 : Int) (a0_1 : Int) (a0_2 : Int) (a0_3 : Int) (a1 : Int) : Option (Int) := (ref21_MayCard.f a0_0 a0_1 a0_2 a0_3).bind fun t2 => if (!t2) = true then (some 2) else ((if (a1 == 3) = true then (some (a1 == 3)) else ((if (a1 == 11) = true then (some (a1 == 11)) else (some (a1 == 10))).bind fun j10_16 => some j10_16)).bind fun j10_9 => if j10_9 = true then (some 0) else (if (a1 == 4) = true then (if (!(a0_0 == 1)) = true then (some 12) else (some 0)) else (if (a1 == 5) = true then ((ref21_Has.f a0_2 4).bind fun t33 => if (!t33) = true then (some 12) else (some 0)) else (if (a1 == 7) = true then ((ref21_Has.f a0_2 8).bind fun t42 => if (!t42) = true then (some 12) else (some 0)) else (if (a1 == 8) = true then ((ref21_Has.f a0_2 16).bind fun t51 => if (!t51) = true then (some 12) else (some 0)) else (if (a1 == 9) = true then ((ref21_Has.f a0_2 1).bind fun t60 => if (!t60) = true then (some 12) else (some 0)) else (if (a1 == 12) = true then ((ref21_Has.f a0_2 32).bind fun t69 => if (!t69) = true then (some 12) else (some 0)) else (if (a1 == 13) = true then ((ref21_Has.f a0_2 32).bind fun t78 => (if t78 = true then (some (a0_0 == 1)) else (some false)).bind fun q81 => if (!q81) = true then (some 12) else (some 0)) else (some 2)))))))))
set_option maxRecDepth 20000 in
theorem ref21_Asked.ok {a0_0 : Int} {a0_1 : Int} {a0_2 : Int} {a0_3 : Int} {a1 : Int} {r : Int} (h : ref21_Asked.f a0_0 a0_1 a0_2 a0_3 a1 = some r) (w : World) : Calls Try.prog 18 #[.agg #[.int .i64 a0_0, .int .i64 a0_1, .int .i64 a0_2, .int .i64 a0_3], .int .i64 a1] w (Post (fun u => u = .int .i64 r) w) := by
  unfold ref21_Asked.f at h
  refine calls_of_TT (N := 56) (S := [(0, .agg #[.int .i64 a0_0, .int .i64 a0_1, .int .i64 a0_2, .int .i64 a0_3]), (1, .int .i64 a1)]) (c := B18) Try.func18 rfl rfl rfl (by simp) ?_
  show TT _ _ _ _ _ _ [.code (sub [] B18)] _ _
  refine TT.seq (x := sub [0] B18) (y := sub [1] B18) ?_
  refine TT.region (id := 0) (n := 2) (ops := (opsOf (sub [0] B18))) [(.alloc, none), (.pure, none)] rfl ?_
  show DL _ _ _ _ _ _ _ _ _ _ [0, 1] _ _
  refine DL.new (ob := .cells (#[.int .i64 a0_0, .int .i64 a0_1, .int .i64 a0_2, .int .i64 a0_3]) 26) (mk := fun b => ptr b 0) (i := 0) rfl (Wn.none rfl) rfl rfl rfl (f_box (v := .agg #[.int .i64 a0_0, .int .i64 a0_1, .int .i64 a0_2, .int .i64 a0_3]) rfl rfl) ?_
  intro b1 hb1
  refine DL.pu 4 (.int .i64 0) rfl (p_assign rfl rfl) ?_
  refine DL.nil ?_
  refine TT.seq (x := sub [1, 0] B18) (y := sub [1, 1] B18) ?_
  refine TT.seq (x := sub [1, 0, 0] B18) (y := sub [1, 0, 1] B18) ?_
  refine TT.region (id := 1) (n := 3) (ops := (opsOf (sub [1, 0, 0] B18))) [(.quiet, none), (.quiet, none), (.pure, none)] rfl ?_
  show DL _ _ _ _ _ _ _ _ _ _ [0, 1, 2] _ _
  refine DL.qu 6 (.agg #[.int .i64 a0_0, .int .i64 a0_1, .int .i64 a0_2, .int .i64 a0_3]) rfl (f_loadA (j := 0) ty_a26 ty_s26 rfl rfl rfl rfl) ?_
  obtain ⟨t2, h3, h4⟩ := bind_some h
  refine DL.qu 7 (.bool t2) rfl (f_call rfl rfl (args_val (vs := [.agg #[.int .i64 a0_0, .int .i64 a0_1, .int .i64 a0_2, .int .i64 a0_3]]) rfl) (fun w => enter23 _ w) (fun w => ref21_MayCard.val h3 w)) ?_
  refine DL.pu 8 (.bool (!t2)) rfl (p_not rfl rfl) ?_
  refine DL.nil ?_
  by_cases c5 : (!t2) = true
  · have h6 := ite_true c5 h4
    refine TT.cond_true (x := sub [1, 0, 1, 0] B18) (y := sub [1, 0, 1, 1] B18) rfl c5 ?_
    refine TT.seq (x := sub [1, 0, 1, 0, 0] B18) (y := sub [1, 0, 1, 0, 1] B18) ?_
    refine TT.region (id := 2) (n := 1) (ops := (opsOf (sub [1, 0, 1, 0, 0] B18))) [(.pure, none)] rfl ?_
    show DL _ _ _ _ _ _ _ _ _ _ [0] _ _
    refine DL.pu 4 (.int .i64 2) rfl (p_assign rfl rfl) ?_
    refine DL.nil ?_
    obtain rfl := Option.some.inj h6
    exact ret1 Try.func18 rfl (ResV.tmp rfl) rfl
  · replace c5 := Bool.eq_false_iff.mpr c5
    have h7 := ite_false c5 h4
    refine TT.cond_false (x := sub [1, 0, 1, 0] B18) (y := sub [1, 0, 1, 1] B18) rfl c5 ?_
    refine TT.skip ?_
    refine TT.seq (x := sub [1, 1, 0] B18) (y := sub [1, 1, 1] B18) ?_
    refine TT.region (id := 3) (n := 1) (ops := (opsOf (sub [1, 1, 0] B18))) [(.pure, none)] rfl ?_
    show DL _ _ _ _ _ _ _ _ _ _ [0] _ _
    refine DL.pu 5 (.bool true) rfl (p_assign rfl rfl) ?_
    refine DL.nil ?_
    refine TT.seq (x := sub [1, 1, 1, 0] B18) (y := sub [1, 1, 1, 1] B18) ?_
    refine TT.seq (x := sub [1, 1, 1, 0, 0] B18) (y := sub [1, 1, 1, 0, 1] B18) ?_
    refine TT.region (id := 4) (n := 1) (ops := (opsOf (sub [1, 1, 1, 0, 0] B18))) [(.pure, none)] rfl ?_
    show DL _ _ _ _ _ _ _ _ _ _ [0] _ _
    refine DL.pu 9 (.int .i64 a1) rfl (p_move rfl rfl) ?_
    refine DL.nil ?_
    refine TT.block (c := sub [1, 1, 1, 0, 1, 0] B18) ?_
    refine TT.seq (x := sub [1, 1, 1, 0, 1, 0, 0] B18) (y := sub [1, 1, 1, 0, 1, 0, 1] B18) ?_
    refine TT.seq (x := sub [1, 1, 1, 0, 1, 0, 0, 0] B18) (y := sub [1, 1, 1, 0, 1, 0, 0, 1] B18) ?_
    refine TT.region (id := 6) (n := 2) (ops := (opsOf (sub [1, 1, 1, 0, 1, 0, 0, 0] B18))) [(.pure, none), (.pure, none)] rfl ?_
    show DL _ _ _ _ _ _ _ _ _ _ [0, 1] _ _
    refine DL.pu 11 (.bool (a1 == 3)) rfl (p_eql rfl rfl rfl) ?_
    refine DL.pu 10 (.bool (a1 == 3)) rfl (p_assign rfl rfl) ?_
    refine DL.nil ?_
    obtain ⟨j10_9, h10, h11⟩ := bind_some h7
    refine TT.cutI (True) (.code (sub [1, 1, 1, 0, 1, 0, 1] B18) :: .inBlock 0 :: .code (sub [1, 1, 1, 1] B18) :: []) [(2, ptr b1 0), (5, .bool true), (9, .int .i64 a1), (10, .bool j10_9)] [(some b1, .cells (#[.int .i64 a0_0, .int .i64 a0_1, .int .i64 a0_2, .int .i64 a0_3]) 26 (0, 0))] ?_ (fun J12 => ?_)
    · intro _
      by_cases c22 : j10_9 = true
      · have h23 := ite_true c22 h11
        refine TT.cond_true (x := sub [1, 1, 1, 0, 1, 0, 1, 0] B18) (y := sub [1, 1, 1, 0, 1, 0, 1, 1] B18) rfl c22 ?_
        refine TT.skip ?_
        refine TT.inBlock ?_
        refine TT.seq (x := sub [1, 1, 1, 1, 0] B18) (y := sub [1, 1, 1, 1, 1] B18) ?_
        refine TT.seq (x := sub [1, 1, 1, 1, 0, 0] B18) (y := sub [1, 1, 1, 1, 0, 1] B18) ?_
        refine TT.region (id := 23) (n := 2) (ops := (opsOf (sub [1, 1, 1, 1, 0, 0] B18))) [(.pure, none), (.pure, none)] rfl ?_
        show DL _ _ _ _ _ _ _ _ _ _ [0, 1] _ _
        refine DL.pu 54 (.bool true) rfl (p_move rfl rfl) ?_
        refine DL.pu 55 (.bool false) rfl (show FPure _ _ _ (.bool (!true)) from p_not rfl rfl) ?_
        refine DL.nil ?_
        refine TT.cond_false (x := sub [1, 1, 1, 1, 0, 1, 0] B18) (y := sub [1, 1, 1, 1, 0, 1, 1] B18) rfl rfl ?_
        refine TT.skip ?_
        refine TT.seq (x := sub [1, 1, 1, 1, 1, 0] B18) (y := sub [1, 1, 1, 1, 1, 1] B18) ?_
        refine TT.region (id := 25) (n := 1) (ops := (opsOf (sub [1, 1, 1, 1, 1, 0] B18))) [(.pure, none)] rfl ?_
        show DL _ _ _ _ _ _ _ _ _ _ [0] _ _
        refine DL.pu 4 (.int .i64 0) rfl (p_assign rfl rfl) ?_
        refine DL.nil ?_
        obtain rfl := Option.some.inj h23
        exact ret1 Try.func18 rfl (ResV.tmp rfl) rfl
      · replace c22 := Bool.eq_false_iff.mpr c22
        have h24 := ite_false c22 h11
        refine TT.cond_false (x := sub [1, 1, 1, 0, 1, 0, 1, 0] B18) (y := sub [1, 1, 1, 0, 1, 0, 1, 1] B18) rfl c22 ?_
        refine TT.seq (x := sub [1, 1, 1, 0, 1, 0, 1, 1, 0] B18) (y := sub [1, 1, 1, 0, 1, 0, 1, 1, 1] B18) ?_
        refine TT.region (id := 9) (n := 2) (ops := (opsOf (sub [1, 1, 1, 0, 1, 0, 1, 1, 0] B18))) [(.pure, none), (.pure, none)] rfl ?_
        show DL _ _ _ _ _ _ _ _ _ _ [0, 1] _ _
        refine DL.pu 15 (.bool (a1 == 4)) rfl (p_eql rfl rfl rfl) ?_
        refine DL.pu 14 (.bool (a1 == 4)) rfl (p_assign rfl rfl) ?_
        refine DL.nil ?_
        by_cases c25 : (a1 == 4) = true
        · have h26 := ite_true c25 h24
          refine TT.cond_true (x := sub [1, 1, 1, 0, 1, 0, 1, 1, 1, 0] B18) (y := sub [1, 1, 1, 0, 1, 0, 1, 1, 1, 1] B18) rfl c25 ?_
          refine TT.region (id := 10) (n := 4) (ops := (opsOf (sub [1, 1, 1, 0, 1, 0, 1, 1, 1, 0] B18))) [(.pure, none), (.quiet, none), (.pure, none), (.pure, none)] rfl ?_
          show DL _ _ _ _ _ _ _ _ _ _ [0, 1, 2, 3] _ _
          refine DL.pu 16 (ptr b1 0) rfl (p_fieldAddr ty_f26_0 rfl rfl) ?_
          refine DL.qu 17 (.int .i64 a0_0) rfl (f_load (j := 0) ty_a22 rfl rfl rfl rfl) ?_
          refine DL.pu 18 (.bool (a0_0 == 1)) rfl (p_eql rfl rfl rfl) ?_
          refine DL.pu 5 (.bool (a0_0 == 1)) rfl (p_assign rfl rfl) ?_
          refine DL.nil ?_
          refine TT.inBlock ?_
          refine TT.seq (x := sub [1, 1, 1, 1, 0] B18) (y := sub [1, 1, 1, 1, 1] B18) ?_
          refine TT.seq (x := sub [1, 1, 1, 1, 0, 0] B18) (y := sub [1, 1, 1, 1, 0, 1] B18) ?_
          refine TT.region (id := 23) (n := 2) (ops := (opsOf (sub [1, 1, 1, 1, 0, 0] B18))) [(.pure, none), (.pure, none)] rfl ?_
          show DL _ _ _ _ _ _ _ _ _ _ [0, 1] _ _
          refine DL.pu 54 (.bool (a0_0 == 1)) rfl (p_move rfl rfl) ?_
          refine DL.pu 55 (.bool (!(a0_0 == 1))) rfl (p_not rfl rfl) ?_
          refine DL.nil ?_
          by_cases c27 : (!(a0_0 == 1)) = true
          · have h28 := ite_true c27 h26
            refine TT.cond_true (x := sub [1, 1, 1, 1, 0, 1, 0] B18) (y := sub [1, 1, 1, 1, 0, 1, 1] B18) rfl c27 ?_
            refine TT.seq (x := sub [1, 1, 1, 1, 0, 1, 0, 0] B18) (y := sub [1, 1, 1, 1, 0, 1, 0, 1] B18) ?_
            refine TT.region (id := 24) (n := 1) (ops := (opsOf (sub [1, 1, 1, 1, 0, 1, 0, 0] B18))) [(.pure, none)] rfl ?_
            show DL _ _ _ _ _ _ _ _ _ _ [0] _ _
            refine DL.pu 4 (.int .i64 12) rfl (p_assign rfl rfl) ?_
            refine DL.nil ?_
            obtain rfl := Option.some.inj h28
            exact ret1 Try.func18 rfl (ResV.tmp rfl) rfl
          · replace c27 := Bool.eq_false_iff.mpr c27
            have h29 := ite_false c27 h26
            refine TT.cond_false (x := sub [1, 1, 1, 1, 0, 1, 0] B18) (y := sub [1, 1, 1, 1, 0, 1, 1] B18) rfl c27 ?_
            refine TT.skip ?_
            refine TT.seq (x := sub [1, 1, 1, 1, 1, 0] B18) (y := sub [1, 1, 1, 1, 1, 1] B18) ?_
            refine TT.region (id := 25) (n := 1) (ops := (opsOf (sub [1, 1, 1, 1, 1, 0] B18))) [(.pure, none)] rfl ?_
            show DL _ _ _ _ _ _ _ _ _ _ [0] _ _
            refine DL.pu 4 (.int .i64 0) rfl (p_assign rfl rfl) ?_
            refine DL.nil ?_
            obtain rfl := Option.some.inj h29
            exact ret1 Try.func18 rfl (ResV.tmp rfl) rfl
        · replace c25 := Bool.eq_false_iff.mpr c25
          have h30 := ite_false c25 h24
          refine TT.cond_false (x := sub [1, 1, 1, 0, 1, 0, 1, 1, 1, 0] B18) (y := sub [1, 1, 1, 0, 1, 0, 1, 1, 1, 1] B18) rfl c25 ?_
          refine TT.seq (x := sub [1, 1, 1, 0, 1, 0, 1, 1, 1, 1, 0] B18) (y := sub [1, 1, 1, 0, 1, 0, 1, 1, 1, 1, 1] B18) ?_
          refine TT.region (id := 11) (n := 2) (ops := (opsOf (sub [1, 1, 1, 0, 1, 0, 1, 1, 1, 1, 0] B18))) [(.pure, none), (.pure, none)] rfl ?_
          show DL _ _ _ _ _ _ _ _ _ _ [0, 1] _ _
          refine DL.pu 20 (.bool (a1 == 5)) rfl (p_eql rfl rfl rfl) ?_
          refine DL.pu 19 (.bool (a1 == 5)) rfl (p_assign rfl rfl) ?_
          refine DL.nil ?_
          by_cases c31 : (a1 == 5) = true
          · have h32 := ite_true c31 h30
            refine TT.cond_true (x := sub [1, 1, 1, 0, 1, 0, 1, 1, 1, 1, 1, 0] B18) (y := sub [1, 1, 1, 0, 1, 0, 1, 1, 1, 1, 1, 1] B18) rfl c31 ?_
            refine TT.region (id := 12) (n := 4) (ops := (opsOf (sub [1, 1, 1, 0, 1, 0, 1, 1, 1, 1, 1, 0] B18))) [(.pure, none), (.quiet, none), (.quiet, none), (.pure, none)] rfl ?_
            show DL _ _ _ _ _ _ _ _ _ _ [0, 1, 2, 3] _ _
            refine DL.pu 21 (ptr b1 2) rfl (p_fieldAddr ty_f26_2 rfl rfl) ?_
            refine DL.qu 22 (.int .i64 a0_2) rfl (f_load (j := 0) ty_a24 rfl rfl rfl rfl) ?_
            obtain ⟨t33, h34, h35⟩ := bind_some h32
            refine DL.qu 23 (.bool t33) rfl (f_call rfl rfl (args_val (vs := [.int .i64 a0_2, .int .i64 4]) rfl) (fun w => enter34 _ w) (fun w => ref21_Has.val h34 w)) ?_
            refine DL.pu 5 (.bool t33) rfl (p_assign rfl rfl) ?_
            refine DL.nil ?_
            refine TT.inBlock ?_
            refine TT.seq (x := sub [1, 1, 1, 1, 0] B18) (y := sub [1, 1, 1, 1, 1] B18) ?_
            refine TT.seq (x := sub [1, 1, 1, 1, 0, 0] B18) (y := sub [1, 1, 1, 1, 0, 1] B18) ?_
            refine TT.region (id := 23) (n := 2) (ops := (opsOf (sub [1, 1, 1, 1, 0, 0] B18))) [(.pure, none), (.pure, none)] rfl ?_
            show DL _ _ _ _ _ _ _ _ _ _ [0, 1] _ _
            refine DL.pu 54 (.bool t33) rfl (p_move rfl rfl) ?_
            refine DL.pu 55 (.bool (!t33)) rfl (p_not rfl rfl) ?_
            refine DL.nil ?_
            by_cases c36 : (!t33) = true
            · have h37 := ite_true c36 h35
              refine TT.cond_true (x := sub [1, 1, 1, 1, 0, 1, 0] B18) (y := sub [1, 1, 1, 1, 0, 1, 1] B18) rfl c36 ?_
              refine TT.seq (x := sub [1, 1, 1, 1, 0, 1, 0, 0] B18) (y := sub [1, 1, 1, 1, 0, 1, 0, 1] B18) ?_
              refine TT.region (id := 24) (n := 1) (ops := (opsOf (sub [1, 1, 1, 1, 0, 1, 0, 0] B18))) [(.pure, none)] rfl ?_
              show DL _ _ _ _ _ _ _ _ _ _ [0] _ _
              refine DL.pu 4 (.int .i64 12) rfl (p_assign rfl rfl) ?_
              refine DL.nil ?_
              obtain rfl := Option.some.inj h37
              exact ret1 Try.func18 rfl (ResV.tmp rfl) rfl
            · replace c36 := Bool.eq_false_iff.mpr c36
              have h38 := ite_false c36 h35
              refine TT.cond_false (x := sub [1, 1, 1, 1, 0, 1, 0] B18) (y := sub [1, 1, 1, 1, 0, 1, 1] B18) rfl c36 ?_
              refine TT.skip ?_
              refine TT.seq (x := sub [1, 1, 1, 1, 1, 0] B18) (y := sub [1, 1, 1, 1, 1, 1] B18) ?_
              refine TT.region (id := 25) (n := 1) (ops := (opsOf (sub [1, 1, 1, 1, 1, 0] B18))) [(.pure, none)] rfl ?_
              show DL _ _ _ _ _ _ _ _ _ _ [0] _ _
              refine DL.pu 4 (.int .i64 0) rfl (p_assign rfl rfl) ?_
              refine DL.nil ?_
              obtain rfl := Option.some.inj h38
              exact ret1 Try.func18 rfl (ResV.tmp rfl) rfl
          · replace c31 := Bool.eq_false_iff.mpr c31
            have h39 := ite_false c31 h30
            refine TT.cond_false (x := sub [1, 1, 1, 0, 1, 0, 1, 1, 1, 1, 1, 0] B18) (y := sub [1, 1, 1, 0, 1, 0, 1, 1, 1, 1, 1, 1] B18) rfl c31 ?_
            refine TT.seq (x := sub [1, 1, 1, 0, 1, 0, 1, 1, 1, 1, 1, 1, 0] B18) (y := sub [1, 1, 1, 0, 1, 0, 1, 1, 1, 1, 1, 1, 1] B18) ?_
            refine TT.region (id := 13) (n := 2) (ops := (opsOf (sub [1, 1, 1, 0, 1, 0, 1, 1, 1, 1, 1, 1, 0] B18))) [(.pure, none), (.pure, none)] rfl ?_
            show DL _ _ _ _ _ _ _ _ _ _ [0, 1] _ _
            refine DL.pu 25 (.bool (a1 == 7)) rfl (p_eql rfl rfl rfl) ?_
            refine DL.pu 24 (.bool (a1 == 7)) rfl (p_assign rfl rfl) ?_
            refine DL.nil ?_
            by_cases c40 : (a1 == 7) = true
            · have h41 := ite_true c40 h39
              refine TT.cond_true (x := sub [1, 1, 1, 0, 1, 0, 1, 1, 1, 1, 1, 1, 1, 0] B18) (y := sub [1, 1, 1, 0, 1, 0, 1, 1, 1, 1, 1, 1, 1, 1] B18) rfl c40 ?_
              refine TT.region (id := 14) (n := 4) (ops := (opsOf (sub [1, 1, 1, 0, 1, 0, 1, 1, 1, 1, 1, 1, 1, 0] B18))) [(.pure, none), (.quiet, none), (.quiet, none), (.pure, none)] rfl ?_
              show DL _ _ _ _ _ _ _ _ _ _ [0, 1, 2, 3] _ _
              refine DL.pu 26 (ptr b1 2) rfl (p_fieldAddr ty_f26_2 rfl rfl) ?_
              refine DL.qu 27 (.int .i64 a0_2) rfl (f_load (j := 0) ty_a24 rfl rfl rfl rfl) ?_
              obtain ⟨t42, h43, h44⟩ := bind_some h41
              refine DL.qu 28 (.bool t42) rfl (f_call rfl rfl (args_val (vs := [.int .i64 a0_2, .int .i64 8]) rfl) (fun w => enter34 _ w) (fun w => ref21_Has.val h43 w)) ?_
              refine DL.pu 5 (.bool t42) rfl (p_assign rfl rfl) ?_
              refine DL.nil ?_
              refine TT.inBlock ?_
              refine TT.seq (x := sub [1, 1, 1, 1, 0] B18) (y := sub [1, 1, 1, 1, 1] B18) ?_
              refine TT.seq (x := sub [1, 1, 1, 1, 0, 0] B18) (y := sub [1, 1, 1, 1, 0, 1] B18) ?_
              refine TT.region (id := 23) (n := 2) (ops := (opsOf (sub [1, 1, 1, 1, 0, 0] B18))) [(.pure, none), (.pure, none)] rfl ?_
              show DL _ _ _ _ _ _ _ _ _ _ [0, 1] _ _
              refine DL.pu 54 (.bool t42) rfl (p_move rfl rfl) ?_
              refine DL.pu 55 (.bool (!t42)) rfl (p_not rfl rfl) ?_
              refine DL.nil ?_
              by_cases c45 : (!t42) = true
              · have h46 := ite_true c45 h44
                refine TT.cond_true (x := sub [1, 1, 1, 1, 0, 1, 0] B18) (y := sub [1, 1, 1, 1, 0, 1, 1] B18) rfl c45 ?_
                refine TT.seq (x := sub [1, 1, 1, 1, 0, 1, 0, 0] B18) (y := sub [1, 1, 1, 1, 0, 1, 0, 1] B18) ?_
                refine TT.region (id := 24) (n := 1) (ops := (opsOf (sub [1, 1, 1, 1, 0, 1, 0, 0] B18))) [(.pure, none)] rfl ?_
                show DL _ _ _ _ _ _ _ _ _ _ [0] _ _
                refine DL.pu 4 (.int .i64 12) rfl (p_assign rfl rfl) ?_
                refine DL.nil ?_
                obtain rfl := Option.some.inj h46
                exact ret1 Try.func18 rfl (ResV.tmp rfl) rfl
              · replace c45 := Bool.eq_false_iff.mpr c45
                have h47 := ite_false c45 h44
                refine TT.cond_false (x := sub [1, 1, 1, 1, 0, 1, 0] B18) (y := sub [1, 1, 1, 1, 0, 1, 1] B18) rfl c45 ?_
                refine TT.skip ?_
                refine TT.seq (x := sub [1, 1, 1, 1, 1, 0] B18) (y := sub [1, 1, 1, 1, 1, 1] B18) ?_
                refine TT.region (id := 25) (n := 1) (ops := (opsOf (sub [1, 1, 1, 1, 1, 0] B18))) [(.pure, none)] rfl ?_
                show DL _ _ _ _ _ _ _ _ _ _ [0] _ _
                refine DL.pu 4 (.int .i64 0) rfl (p_assign rfl rfl) ?_
                refine DL.nil ?_
                obtain rfl := Option.some.inj h47
                exact ret1 Try.func18 rfl (ResV.tmp rfl) rfl
            · replace c40 := Bool.eq_false_iff.mpr c40
              have h48 := ite_false c40 h39
              refine TT.cond_false (x := sub [1, 1, 1, 0, 1, 0, 1, 1, 1, 1, 1, 1, 1, 0] B18) (y := sub [1, 1, 1, 0, 1, 0, 1, 1, 1, 1, 1, 1, 1, 1] B18) rfl c40 ?_
              refine TT.seq (x := sub [1, 1, 1, 0, 1, 0, 1, 1, 1, 1, 1, 1, 1, 1, 0] B18) (y := sub [1, 1, 1, 0, 1, 0, 1, 1, 1, 1, 1, 1, 1, 1, 1] B18) ?_
              refine TT.region (id := 15) (n := 2) (ops := (opsOf (sub [1, 1, 1, 0, 1, 0, 1, 1, 1, 1, 1, 1, 1, 1, 0] B18))) [(.pure, none), (.pure, none)] rfl ?_
              show DL _ _ _ _ _ _ _ _ _ _ [0, 1] _ _
              refine DL.pu 30 (.bool (a1 == 8)) rfl (p_eql rfl rfl rfl) ?_
              refine DL.pu 29 (.bool (a1 == 8)) rfl (p_assign rfl rfl) ?_
              refine DL.nil ?_
              by_cases c49 : (a1 == 8) = true
              · have h50 := ite_true c49 h48
                refine TT.cond_true (x := sub [1, 1, 1, 0, 1, 0, 1, 1, 1, 1, 1, 1, 1, 1, 1, 0] B18) (y := sub [1, 1, 1, 0, 1, 0, 1, 1, 1, 1, 1, 1, 1, 1, 1, 1] B18) rfl c49 ?_
                refine TT.region (id := 16) (n := 4) (ops := (opsOf (sub [1, 1, 1, 0, 1, 0, 1, 1, 1, 1, 1, 1, 1, 1, 1, 0] B18))) [(.pure, none), (.quiet, none), (.quiet, none), (.pure, none)] rfl ?_
                show DL _ _ _ _ _ _ _ _ _ _ [0, 1, 2, 3] _ _
                refine DL.pu 31 (ptr b1 2) rfl (p_fieldAddr ty_f26_2 rfl rfl) ?_
                refine DL.qu 32 (.int .i64 a0_2) rfl (f_load (j := 0) ty_a24 rfl rfl rfl rfl) ?_
                obtain ⟨t51, h52, h53⟩ := bind_some h50
                refine DL.qu 33 (.bool t51) rfl (f_call rfl rfl (args_val (vs := [.int .i64 a0_2, .int .i64 16]) rfl) (fun w => enter34 _ w) (fun w => ref21_Has.val h52 w)) ?_
                refine DL.pu 5 (.bool t51) rfl (p_assign rfl rfl) ?_
                refine DL.nil ?_
                refine TT.inBlock ?_
                refine TT.seq (x := sub [1, 1, 1, 1, 0] B18) (y := sub [1, 1, 1, 1, 1] B18) ?_
                refine TT.seq (x := sub [1, 1, 1, 1, 0, 0] B18) (y := sub [1, 1, 1, 1, 0, 1] B18) ?_
                refine TT.region (id := 23) (n := 2) (ops := (opsOf (sub [1, 1, 1, 1, 0, 0] B18))) [(.pure, none), (.pure, none)] rfl ?_
                show DL _ _ _ _ _ _ _ _ _ _ [0, 1] _ _
                refine DL.pu 54 (.bool t51) rfl (p_move rfl rfl) ?_
                refine DL.pu 55 (.bool (!t51)) rfl (p_not rfl rfl) ?_
                refine DL.nil ?_
                by_cases c54 : (!t51) = true
                · have h55 := ite_true c54 h53
                  refine TT.cond_true (x := sub [1, 1, 1, 1, 0, 1, 0] B18) (y := sub [1, 1, 1, 1, 0, 1, 1] B18) rfl c54 ?_
                  refine TT.seq (x := sub [1, 1, 1, 1, 0, 1, 0, 0] B18) (y := sub [1, 1, 1, 1, 0, 1, 0, 1] B18) ?_
                  refine TT.region (id := 24) (n := 1) (ops := (opsOf (sub [1, 1, 1, 1, 0, 1, 0, 0] B18))) [(.pure, none)] rfl ?_
                  show DL _ _ _ _ _ _ _ _ _ _ [0] _ _
                  refine DL.pu 4 (.int .i64 12) rfl (p_assign rfl rfl) ?_
                  refine DL.nil ?_
                  obtain rfl := Option.some.inj h55
                  exact ret1 Try.func18 rfl (ResV.tmp rfl) rfl
                · replace c54 := Bool.eq_false_iff.mpr c54
                  have h56 := ite_false c54 h53
                  refine TT.cond_false (x := sub [1, 1, 1, 1, 0, 1, 0] B18) (y := sub [1, 1, 1, 1, 0, 1, 1] B18) rfl c54 ?_
                  refine TT.skip ?_
                  refine TT.seq (x := sub [1, 1, 1, 1, 1, 0] B18) (y := sub [1, 1, 1, 1, 1, 1] B18) ?_
                  refine TT.region (id := 25) (n := 1) (ops := (opsOf (sub [1, 1, 1, 1, 1, 0] B18))) [(.pure, none)] rfl ?_
                  show DL _ _ _ _ _ _ _ _ _ _ [0] _ _
                  refine DL.pu 4 (.int .i64 0) rfl (p_assign rfl rfl) ?_
                  refine DL.nil ?_
                  obtain rfl := Option.some.inj h56
                  exact ret1 Try.func18 rfl (ResV.tmp rfl) rfl
              · replace c49 := Bool.eq_false_iff.mpr c49
                have h57 := ite_false c49 h48
                refine TT.cond_false (x := sub [1, 1, 1, 0, 1, 0, 1, 1, 1, 1, 1, 1, 1, 1, 1, 0] B18) (y := sub [1, 1, 1, 0, 1, 0, 1, 1, 1, 1, 1, 1, 1, 1, 1, 1] B18) rfl c49 ?_
                refine TT.seq (x := sub [1, 1, 1, 0, 1, 0, 1, 1, 1, 1, 1, 1, 1, 1, 1, 1, 0] B18) (y := sub [1, 1, 1, 0, 1, 0, 1, 1, 1, 1, 1, 1, 1, 1, 1, 1, 1] B18) ?_
                refine TT.region (id := 17) (n := 2) (ops := (opsOf (sub [1, 1, 1, 0, 1, 0, 1, 1, 1, 1, 1, 1, 1, 1, 1, 1, 0] B18))) [(.pure, none), (.pure, none)] rfl ?_
                show DL _ _ _ _ _ _ _ _ _ _ [0, 1] _ _
                refine DL.pu 35 (.bool (a1 == 9)) rfl (p_eql rfl rfl rfl) ?_
                refine DL.pu 34 (.bool (a1 == 9)) rfl (p_assign rfl rfl) ?_
                refine DL.nil ?_
                by_cases c58 : (a1 == 9) = true
                · have h59 := ite_true c58 h57
                  refine TT.cond_true (x := sub [1, 1, 1, 0, 1, 0, 1, 1, 1, 1, 1, 1, 1, 1, 1, 1, 1, 0] B18) (y := sub [1, 1, 1, 0, 1, 0, 1, 1, 1, 1, 1, 1, 1, 1, 1, 1, 1, 1] B18) rfl c58 ?_
                  refine TT.region (id := 18) (n := 4) (ops := (opsOf (sub [1, 1, 1, 0, 1, 0, 1, 1, 1, 1, 1, 1, 1, 1, 1, 1, 1, 0] B18))) [(.pure, none), (.quiet, none), (.quiet, none), (.pure, none)] rfl ?_
                  show DL _ _ _ _ _ _ _ _ _ _ [0, 1, 2, 3] _ _
                  refine DL.pu 36 (ptr b1 2) rfl (p_fieldAddr ty_f26_2 rfl rfl) ?_
                  refine DL.qu 37 (.int .i64 a0_2) rfl (f_load (j := 0) ty_a24 rfl rfl rfl rfl) ?_
                  obtain ⟨t60, h61, h62⟩ := bind_some h59
                  refine DL.qu 38 (.bool t60) rfl (f_call rfl rfl (args_val (vs := [.int .i64 a0_2, .int .i64 1]) rfl) (fun w => enter34 _ w) (fun w => ref21_Has.val h61 w)) ?_
                  refine DL.pu 5 (.bool t60) rfl (p_assign rfl rfl) ?_
                  refine DL.nil ?_
                  refine TT.inBlock ?_
                  refine TT.seq (x := sub [1, 1, 1, 1, 0] B18) (y := sub [1, 1, 1, 1, 1] B18) ?_
                  refine TT.seq (x := sub [1, 1, 1, 1, 0, 0] B18) (y := sub [1, 1, 1, 1, 0, 1] B18) ?_
                  refine TT.region (id := 23) (n := 2) (ops := (opsOf (sub [1, 1, 1, 1, 0, 0] B18))) [(.pure, none), (.pure, none)] rfl ?_
                  show DL _ _ _ _ _ _ _ _ _ _ [0, 1] _ _
                  refine DL.pu 54 (.bool t60) rfl (p_move rfl rfl) ?_
                  refine DL.pu 55 (.bool (!t60)) rfl (p_not rfl rfl) ?_
                  refine DL.nil ?_
                  by_cases c63 : (!t60) = true
                  · have h64 := ite_true c63 h62
                    refine TT.cond_true (x := sub [1, 1, 1, 1, 0, 1, 0] B18) (y := sub [1, 1, 1, 1, 0, 1, 1] B18) rfl c63 ?_
                    refine TT.seq (x := sub [1, 1, 1, 1, 0, 1, 0, 0] B18) (y := sub [1, 1, 1, 1, 0, 1, 0, 1] B18) ?_
                    refine TT.region (id := 24) (n := 1) (ops := (opsOf (sub [1, 1, 1, 1, 0, 1, 0, 0] B18))) [(.pure, none)] rfl ?_
                    show DL _ _ _ _ _ _ _ _ _ _ [0] _ _
                    refine DL.pu 4 (.int .i64 12) rfl (p_assign rfl rfl) ?_
                    refine DL.nil ?_
                    obtain rfl := Option.some.inj h64
                    exact ret1 Try.func18 rfl (ResV.tmp rfl) rfl
                  · replace c63 := Bool.eq_false_iff.mpr c63
                    have h65 := ite_false c63 h62
                    refine TT.cond_false (x := sub [1, 1, 1, 1, 0, 1, 0] B18) (y := sub [1, 1, 1, 1, 0, 1, 1] B18) rfl c63 ?_
                    refine TT.skip ?_
                    refine TT.seq (x := sub [1, 1, 1, 1, 1, 0] B18) (y := sub [1, 1, 1, 1, 1, 1] B18) ?_
                    refine TT.region (id := 25) (n := 1) (ops := (opsOf (sub [1, 1, 1, 1, 1, 0] B18))) [(.pure, none)] rfl ?_
                    show DL _ _ _ _ _ _ _ _ _ _ [0] _ _
                    refine DL.pu 4 (.int .i64 0) rfl (p_assign rfl rfl) ?_
                    refine DL.nil ?_
                    obtain rfl := Option.some.inj h65
                    exact ret1 Try.func18 rfl (ResV.tmp rfl) rfl
                · replace c58 := Bool.eq_false_iff.mpr c58
                  have h66 := ite_false c58 h57
                  refine TT.cond_false (x := sub [1, 1, 1, 0, 1, 0, 1, 1, 1, 1, 1, 1, 1, 1, 1, 1, 1, 0] B18) (y := sub [1, 1, 1, 0, 1, 0, 1, 1, 1, 1, 1, 1, 1, 1, 1, 1, 1, 1] B18) rfl c58 ?_
                  refine TT.seq (x := sub [1, 1, 1, 0, 1, 0, 1, 1, 1, 1, 1, 1, 1, 1, 1, 1, 1, 1, 0] B18) (y := sub [1, 1, 1, 0, 1, 0, 1, 1, 1, 1, 1, 1, 1, 1, 1, 1, 1, 1, 1] B18) ?_
                  refine TT.region (id := 19) (n := 2) (ops := (opsOf (sub [1, 1, 1, 0, 1, 0, 1, 1, 1, 1, 1, 1, 1, 1, 1, 1, 1, 1, 0] B18))) [(.pure, none), (.pure, none)] rfl ?_
                  show DL _ _ _ _ _ _ _ _ _ _ [0, 1] _ _
                  refine DL.pu 40 (.bool (a1 == 12)) rfl (p_eql rfl rfl rfl) ?_
                  refine DL.pu 39 (.bool (a1 == 12)) rfl (p_assign rfl rfl) ?_
                  refine DL.nil ?_
                  by_cases c67 : (a1 == 12) = true
                  · have h68 := ite_true c67 h66
                    refine TT.cond_true (x := sub [1, 1, 1, 0, 1, 0, 1, 1, 1, 1, 1, 1, 1, 1, 1, 1, 1, 1, 1, 0] B18) (y := sub [1, 1, 1, 0, 1, 0, 1, 1, 1, 1, 1, 1, 1, 1, 1, 1, 1, 1, 1, 1] B18) rfl c67 ?_
                    refine TT.region (id := 20) (n := 4) (ops := (opsOf (sub [1, 1, 1, 0, 1, 0, 1, 1, 1, 1, 1, 1, 1, 1, 1, 1, 1, 1, 1, 0] B18))) [(.pure, none), (.quiet, none), (.quiet, none), (.pure, none)] rfl ?_
                    show DL _ _ _ _ _ _ _ _ _ _ [0, 1, 2, 3] _ _
                    refine DL.pu 41 (ptr b1 2) rfl (p_fieldAddr ty_f26_2 rfl rfl) ?_
                    refine DL.qu 42 (.int .i64 a0_2) rfl (f_load (j := 0) ty_a24 rfl rfl rfl rfl) ?_
                    obtain ⟨t69, h70, h71⟩ := bind_some h68
                    refine DL.qu 43 (.bool t69) rfl (f_call rfl rfl (args_val (vs := [.int .i64 a0_2, .int .i64 32]) rfl) (fun w => enter34 _ w) (fun w => ref21_Has.val h70 w)) ?_
                    refine DL.pu 5 (.bool t69) rfl (p_assign rfl rfl) ?_
                    refine DL.nil ?_
                    refine TT.inBlock ?_
                    refine TT.seq (x := sub [1, 1, 1, 1, 0] B18) (y := sub [1, 1, 1, 1, 1] B18) ?_
                    refine TT.seq (x := sub [1, 1, 1, 1, 0, 0] B18) (y := sub [1, 1, 1, 1, 0, 1] B18) ?_
                    refine TT.region (id := 23) (n := 2) (ops := (opsOf (sub [1, 1, 1, 1, 0, 0] B18))) [(.pure, none), (.pure, none)] rfl ?_
                    show DL _ _ _ _ _ _ _ _ _ _ [0, 1] _ _
                    refine DL.pu 54 (.bool t69) rfl (p_move rfl rfl) ?_
                    refine DL.pu 55 (.bool (!t69)) rfl (p_not rfl rfl) ?_
                    refine DL.nil ?_
                    by_cases c72 : (!t69) = true
                    · have h73 := ite_true c72 h71
                      refine TT.cond_true (x := sub [1, 1, 1, 1, 0, 1, 0] B18) (y := sub [1, 1, 1, 1, 0, 1, 1] B18) rfl c72 ?_
                      refine TT.seq (x := sub [1, 1, 1, 1, 0, 1, 0, 0] B18) (y := sub [1, 1, 1, 1, 0, 1, 0, 1] B18) ?_
                      refine TT.region (id := 24) (n := 1) (ops := (opsOf (sub [1, 1, 1, 1, 0, 1, 0, 0] B18))) [(.pure, none)] rfl ?_
                      show DL _ _ _ _ _ _ _ _ _ _ [0] _ _
                      refine DL.pu 4 (.int .i64 12) rfl (p_assign rfl rfl) ?_
                      refine DL.nil ?_
                      obtain rfl := Option.some.inj h73
                      exact ret1 Try.func18 rfl (ResV.tmp rfl) rfl
                    · replace c72 := Bool.eq_false_iff.mpr c72
                      have h74 := ite_false c72 h71
                      refine TT.cond_false (x := sub [1, 1, 1, 1, 0, 1, 0] B18) (y := sub [1, 1, 1, 1, 0, 1, 1] B18) rfl c72 ?_
                      refine TT.skip ?_
                      refine TT.seq (x := sub [1, 1, 1, 1, 1, 0] B18) (y := sub [1, 1, 1, 1, 1, 1] B18) ?_
                      refine TT.region (id := 25) (n := 1) (ops := (opsOf (sub [1, 1, 1, 1, 1, 0] B18))) [(.pure, none)] rfl ?_
                      show DL _ _ _ _ _ _ _ _ _ _ [0] _ _
                      refine DL.pu 4 (.int .i64 0) rfl (p_assign rfl rfl) ?_
                      refine DL.nil ?_
                      obtain rfl := Option.some.inj h74
                      exact ret1 Try.func18 rfl (ResV.tmp rfl) rfl
                  · replace c67 := Bool.eq_false_iff.mpr c67
                    have h75 := ite_false c67 h66
                    refine TT.cond_false (x := sub [1, 1, 1, 0, 1, 0, 1, 1, 1, 1, 1, 1, 1, 1, 1, 1, 1, 1, 1, 0] B18) (y := sub [1, 1, 1, 0, 1, 0, 1, 1, 1, 1, 1, 1, 1, 1, 1, 1, 1, 1, 1, 1] B18) rfl c67 ?_
                    refine TT.seq (x := sub [1, 1, 1, 0, 1, 0, 1, 1, 1, 1, 1, 1, 1, 1, 1, 1, 1, 1, 1, 1, 0] B18) (y := sub [1, 1, 1, 0, 1, 0, 1, 1, 1, 1, 1, 1, 1, 1, 1, 1, 1, 1, 1, 1, 1] B18) ?_
                    refine TT.region (id := 21) (n := 2) (ops := (opsOf (sub [1, 1, 1, 0, 1, 0, 1, 1, 1, 1, 1, 1, 1, 1, 1, 1, 1, 1, 1, 1, 0] B18))) [(.pure, none), (.pure, none)] rfl ?_
                    show DL _ _ _ _ _ _ _ _ _ _ [0, 1] _ _
                    refine DL.pu 45 (.bool (a1 == 13)) rfl (p_eql rfl rfl rfl) ?_
                    refine DL.pu 44 (.bool (a1 == 13)) rfl (p_assign rfl rfl) ?_
                    refine DL.nil ?_
                    by_cases c76 : (a1 == 13) = true
                    · have h77 := ite_true c76 h75
                      refine TT.cond_true (x := sub [1, 1, 1, 0, 1, 0, 1, 1, 1, 1, 1, 1, 1, 1, 1, 1, 1, 1, 1, 1, 1, 0] B18) (y := sub [1, 1, 1, 0, 1, 0, 1, 1, 1, 1, 1, 1, 1, 1, 1, 1, 1, 1, 1, 1, 1, 1] B18) rfl c76 ?_
                      refine TT.region (id := 22) (n := 9) (ops := (opsOf (sub [1, 1, 1, 0, 1, 0, 1, 1, 1, 1, 1, 1, 1, 1, 1, 1, 1, 1, 1, 1, 1, 0] B18))) [(.pure, none), (.quiet, none), (.quiet, none), (.pure, none), (.pure, none), (.quiet, none), (.pure, none), (.pure, none), (.pure, none)] rfl ?_
                      show DL _ _ _ _ _ _ _ _ _ _ [0, 1, 2, 3, 4, 5, 6, 7, 8] _ _
                      refine DL.pu 46 (ptr b1 2) rfl (p_fieldAddr ty_f26_2 rfl rfl) ?_
                      refine DL.qu 47 (.int .i64 a0_2) rfl (f_load (j := 0) ty_a24 rfl rfl rfl rfl) ?_
                      obtain ⟨t78, h79, h80⟩ := bind_some h77
                      refine DL.qu 48 (.bool t78) rfl (f_call rfl rfl (args_val (vs := [.int .i64 a0_2, .int .i64 32]) rfl) (fun w => enter34 _ w) (fun w => ref21_Has.val h79 w)) ?_
                      refine DL.pu 49 (.bool t78) rfl (p_move rfl rfl) ?_
                      obtain ⟨q81, h82, h83⟩ := bind_some h80
                      refine DL.cut [(53, .bool q81)] [8] ?_ (fun J84 => ?_)
                      · refine DL.pu 5 (.bool q81) rfl (p_assign rfl rfl) ?_
                        refine DL.nil ?_
                        refine TT.inBlock ?_
                        refine TT.seq (x := sub [1, 1, 1, 1, 0] B18) (y := sub [1, 1, 1, 1, 1] B18) ?_
                        refine TT.seq (x := sub [1, 1, 1, 1, 0, 0] B18) (y := sub [1, 1, 1, 1, 0, 1] B18) ?_
                        refine TT.region (id := 23) (n := 2) (ops := (opsOf (sub [1, 1, 1, 1, 0, 0] B18))) [(.pure, none), (.pure, none)] rfl ?_
                        show DL _ _ _ _ _ _ _ _ _ _ [0, 1] _ _
                        refine DL.pu 54 (.bool q81) rfl (p_move rfl rfl) ?_
                        refine DL.pu 55 (.bool (!q81)) rfl (p_not rfl rfl) ?_
                        refine DL.nil ?_
                        by_cases c88 : (!q81) = true
                        · have h89 := ite_true c88 h83
                          refine TT.cond_true (x := sub [1, 1, 1, 1, 0, 1, 0] B18) (y := sub [1, 1, 1, 1, 0, 1, 1] B18) rfl c88 ?_
                          refine TT.seq (x := sub [1, 1, 1, 1, 0, 1, 0, 0] B18) (y := sub [1, 1, 1, 1, 0, 1, 0, 1] B18) ?_
                          refine TT.region (id := 24) (n := 1) (ops := (opsOf (sub [1, 1, 1, 1, 0, 1, 0, 0] B18))) [(.pure, none)] rfl ?_
                          show DL _ _ _ _ _ _ _ _ _ _ [0] _ _
                          refine DL.pu 4 (.int .i64 12) rfl (p_assign rfl rfl) ?_
                          refine DL.nil ?_
                          obtain rfl := Option.some.inj h89
                          exact ret1 Try.func18 rfl (ResV.tmp rfl) rfl
                        · replace c88 := Bool.eq_false_iff.mpr c88
                          have h90 := ite_false c88 h83
                          refine TT.cond_false (x := sub [1, 1, 1, 1, 0, 1, 0] B18) (y := sub [1, 1, 1, 1, 0, 1, 1] B18) rfl c88 ?_
                          refine TT.skip ?_
                          refine TT.seq (x := sub [1, 1, 1, 1, 1, 0] B18) (y := sub [1, 1, 1, 1, 1, 1] B18) ?_
                          refine TT.region (id := 25) (n := 1) (ops := (opsOf (sub [1, 1, 1, 1, 1, 0] B18))) [(.pure, none)] rfl ?_
                          show DL _ _ _ _ _ _ _ _ _ _ [0] _ _
                          refine DL.pu 4 (.int .i64 0) rfl (p_assign rfl rfl) ?_
                          refine DL.nil ?_
                          obtain rfl := Option.some.inj h90
                          exact ret1 Try.func18 rfl (ResV.tmp rfl) rfl
                      · by_cases c85 : t78 = true
                        · have h86 := ite_true c85 h82
                          refine DL.pure (v := ptr b1 0) rfl (Wn.yes c85 rfl rfl rfl rfl) rfl rfl rfl (p_fieldAddr ty_f26_0 rfl rfl) ?_
                          refine DL.quiet (v := .int .i64 a0_0) rfl (Wn.yes c85 rfl rfl rfl rfl) rfl rfl rfl (f_load (j := 0) ty_a22 rfl rfl rfl rfl) ?_
                          refine DL.pure (v := .bool (a0_0 == 1)) rfl (Wn.yes c85 rfl rfl rfl rfl) rfl rfl rfl (p_eql rfl rfl rfl) ?_
                          refine DL.pu 53 (.bool (a0_0 == 1)) rfl (p_pick_t c85 rfl rfl rfl) ?_
                          obtain rfl := Option.some.inj h86
                          exact DL.weak J84 (Sub.cons rfl (Sub.nil _))
                        · replace c85 := Bool.eq_false_iff.mpr c85
                          have h87 := ite_false c85 h82
                          refine DL.not (i := 4) rfl (Wn.no c85 rfl rfl rfl rfl) rfl rfl ?_
                          refine DL.not (i := 5) rfl (Wn.no c85 rfl rfl rfl rfl) rfl rfl ?_
                          refine DL.not (i := 6) rfl (Wn.no c85 rfl rfl rfl rfl) rfl rfl ?_
                          refine DL.pu 53 (.bool false) rfl (p_pick_f c85 rfl rfl rfl) ?_
                          obtain rfl := Option.some.inj h87
                          exact DL.weak J84 (Sub.cons rfl (Sub.nil _))
                    · replace c76 := Bool.eq_false_iff.mpr c76
                      have h91 := ite_false c76 h75
                      refine TT.cond_false (x := sub [1, 1, 1, 0, 1, 0, 1, 1, 1, 1, 1, 1, 1, 1, 1, 1, 1, 1, 1, 1, 1, 0] B18) (y := sub [1, 1, 1, 0, 1, 0, 1, 1, 1, 1, 1, 1, 1, 1, 1, 1, 1, 1, 1, 1, 1, 1] B18) rfl c76 ?_
                      refine TT.seq (x := sub [1, 1, 1, 0, 1, 0, 1, 1, 1, 1, 1, 1, 1, 1, 1, 1, 1, 1, 1, 1, 1, 1, 0] B18) (y := sub [1, 1, 1, 0, 1, 0, 1, 1, 1, 1, 1, 1, 1, 1, 1, 1, 1, 1, 1, 1, 1, 1, 1] B18) ?_
                      refine TT.region (id := 5) (n := 1) (ops := (opsOf (sub [1, 1, 1, 0, 1, 0, 1, 1, 1, 1, 1, 1, 1, 1, 1, 1, 1, 1, 1, 1, 1, 1, 0] B18))) [(.pure, none)] rfl ?_
                      show DL _ _ _ _ _ _ _ _ _ _ [0] _ _
                      refine DL.pu 4 (.int .i64 2) rfl (p_assign rfl rfl) ?_
                      refine DL.nil ?_
                      obtain rfl := Option.some.inj h91
                      exact ret1 Try.func18 rfl (ResV.tmp rfl) rfl
    · by_cases c8 : (a1 == 3) = true
      · have h13 := ite_true c8 h10
        refine TT.cond_true (x := sub [1, 1, 1, 0, 1, 0, 0, 1, 0] B18) (y := sub [1, 1, 1, 0, 1, 0, 0, 1, 1] B18) rfl c8 ?_
        refine TT.skip ?_
        obtain rfl := Option.some.inj h13
        exact TT.weak (J12 trivial) (Sub.cons rfl (Sub.cons rfl (Sub.cons rfl (Sub.cons rfl (Sub.nil _)))))
      · replace c8 := Bool.eq_false_iff.mpr c8
        have h14 := ite_false c8 h10
        refine TT.cond_false (x := sub [1, 1, 1, 0, 1, 0, 0, 1, 0] B18) (y := sub [1, 1, 1, 0, 1, 0, 0, 1, 1] B18) rfl c8 ?_
        refine TT.seq (x := sub [1, 1, 1, 0, 1, 0, 0, 1, 1, 0] B18) (y := sub [1, 1, 1, 0, 1, 0, 0, 1, 1, 1] B18) ?_
        refine TT.region (id := 7) (n := 2) (ops := (opsOf (sub [1, 1, 1, 0, 1, 0, 0, 1, 1, 0] B18))) [(.pure, none), (.pure, none)] rfl ?_
        show DL _ _ _ _ _ _ _ _ _ _ [0, 1] _ _
        refine DL.pu 12 (.bool (a1 == 11)) rfl (p_eql rfl rfl rfl) ?_
        refine DL.pu 10 (.bool (a1 == 11)) rfl (p_assign rfl rfl) ?_
        refine DL.nil ?_
        obtain ⟨j10_16, h17, h18⟩ := bind_some h14
        refine TT.cutI (True) ((.code (sub [1, 1, 1, 0, 1, 0, 1] B18) :: .inBlock 0 :: .code (sub [1, 1, 1, 1] B18) :: [])) [(2, ptr b1 0), (5, .bool true), (9, .int .i64 a1), (10, .bool j10_16)] [(some b1, .cells (#[.int .i64 a0_0, .int .i64 a0_1, .int .i64 a0_2, .int .i64 a0_3]) 26 (0, 0))] ?_ (fun J19 => ?_)
        · intro _
          obtain rfl := Option.some.inj h18
          exact TT.weak (J12 trivial) (Sub.cons rfl (Sub.cons rfl (Sub.cons rfl (Sub.cons rfl (Sub.nil _)))))
        · by_cases c15 : (a1 == 11) = true
          · have h20 := ite_true c15 h17
            refine TT.cond_true (x := sub [1, 1, 1, 0, 1, 0, 0, 1, 1, 1, 0] B18) (y := sub [1, 1, 1, 0, 1, 0, 0, 1, 1, 1, 1] B18) rfl c15 ?_
            refine TT.skip ?_
            obtain rfl := Option.some.inj h20
            exact TT.weak (J19 trivial) (Sub.cons rfl (Sub.cons rfl (Sub.cons rfl (Sub.cons rfl (Sub.nil _)))))
          · replace c15 := Bool.eq_false_iff.mpr c15
            have h21 := ite_false c15 h17
            refine TT.cond_false (x := sub [1, 1, 1, 0, 1, 0, 0, 1, 1, 1, 0] B18) (y := sub [1, 1, 1, 0, 1, 0, 0, 1, 1, 1, 1] B18) rfl c15 ?_
            refine TT.region (id := 8) (n := 2) (ops := (opsOf (sub [1, 1, 1, 0, 1, 0, 0, 1, 1, 1, 1] B18))) [(.pure, none), (.pure, none)] rfl ?_
            show DL _ _ _ _ _ _ _ _ _ _ [0, 1] _ _
            refine DL.pu 13 (.bool (a1 == 10)) rfl (p_eql rfl rfl rfl) ?_
            refine DL.pu 10 (.bool (a1 == 10)) rfl (p_assign rfl rfl) ?_
            refine DL.nil ?_
            obtain rfl := Option.some.inj h21
            exact TT.weak (J19 trivial) (Sub.cons rfl (Sub.cons rfl (Sub.cons rfl (Sub.cons rfl (Sub.nil _)))))
theorem ref21_Asked.val {a0_0 : Int} {a0_1 : Int} {a0_2 : Int} {a0_3 : Int} {a1 : Int} {r : Int} (h : ref21_Asked.f a0_0 a0_1 a0_2 a0_3 a1 = some r) (w : World) : Calls Try.prog 18 #[.agg #[.int .i64 a0_0, .int .i64 a0_1, .int .i64 a0_2, .int .i64 a0_3], .int .i64 a1] w fun e w' => e = .returned (.int .i64 r) ∧ Below w.heap.size w w' :=
  calls_value (ref21_Asked.ok h w)

/-! ### escutcheon/escutcheonlaw21.PolicyRules: function 4 -/
noncomputable def B4 : Code := bodyOf Try.f4
def law21_PolicyRules.f (a0_0 : Int) (a0_1 : Int) (a0_2 : Int) (a0_3 : Int) (a1_0 : Int) (a1_1 : Int) (a1_2 : Int) (a1_3 : Int) (a2 : Int) : Option (Bool) := (policy_Asked.f a0_0 a0_1 a0_2 a0_3 a2).bind fun t4 => (law21_num.f t4).bind fun t7 => (ref21_Asked.f a0_0 a0_1 a0_2 a0_3 a2).bind fun t10 => (if (t7 == t10) = true then ((policy_Wraps.f a0_0 a0_1 a0_2 a0_3 a1_0 a1_1 a1_2 a1_3).bind fun t19 => (law21_num.f t19).bind fun t22 => (ref21_Wraps.f a0_0 a0_1 a0_2 a0_3 a1_0 a1_1 a1_2 a1_3).bind fun t25 => some (t22 == t25)) else (some false)).bind fun q13 => (if q13 = true then ((law21_known.f).bind fun t35 => some t35) else (some false)).bind fun q29 => some q29
set_option maxRecDepth 20000 in
theorem law21_PolicyRules.ok {a0_0 : Int} {a0_1 : Int} {a0_2 : Int} {a0_3 : Int} {a1_0 : Int} {a1_1 : Int} {a1_2 : Int} {a1_3 : Int} {a2 : Int} {r : Bool} (h : law21_PolicyRules.f a0_0 a0_1 a0_2 a0_3 a1_0 a1_1 a1_2 a1_3 a2 = some r) (w : World) : Calls Try.prog 4 #[.agg #[.int .i64 a0_0, .int .i64 a0_1, .int .i64 a0_2, .int .i64 a0_3], .agg #[.int .i64 a1_0, .int .i64 a1_1, .int .i64 a1_2, .int .i64 a1_3], .int .i64 a2] w (Post (fun u => u = .bool r) w) := by
  unfold law21_PolicyRules.f at h
  refine calls_of_TT (N := 28) (S := [(0, .agg #[.int .i64 a0_0, .int .i64 a0_1, .int .i64 a0_2, .int .i64 a0_3]), (1, .agg #[.int .i64 a1_0, .int .i64 a1_1, .int .i64 a1_2, .int .i64 a1_3]), (2, .int .i64 a2)]) (c := B4) Try.func4 rfl rfl rfl (by simp) ?_
  show TT _ _ _ _ _ _ [.code (sub [] B4)] _ _
  refine TT.seq (x := sub [0] B4) (y := sub [1] B4) ?_
  refine TT.region (id := 0) (n := 3) (ops := (opsOf (sub [0] B4))) [(.alloc, none), (.alloc, none), (.pure, none)] rfl ?_
  show DL _ _ _ _ _ _ _ _ _ _ [0, 1, 2] _ _
  refine DL.new (ob := .cells (#[.int .i64 a0_0, .int .i64 a0_1, .int .i64 a0_2, .int .i64 a0_3]) 26) (mk := fun b => ptr b 0) (i := 0) rfl (Wn.none rfl) rfl rfl rfl (f_box (v := .agg #[.int .i64 a0_0, .int .i64 a0_1, .int .i64 a0_2, .int .i64 a0_3]) rfl rfl) ?_
  intro b1 hb1
  refine DL.new (ob := .cells (#[.int .i64 a1_0, .int .i64 a1_1, .int .i64 a1_2, .int .i64 a1_3]) 26) (mk := fun b => ptr b 0) (i := 1) rfl (Wn.none rfl) rfl rfl rfl (f_box (v := .agg #[.int .i64 a1_0, .int .i64 a1_1, .int .i64 a1_2, .int .i64 a1_3]) rfl rfl) ?_
  intro b2 hb2
  refine DL.pu 6 (.bool false) rfl (p_assign rfl rfl) ?_
  refine DL.nil ?_
  refine TT.seq (x := sub [1, 0] B4) (y := sub [1, 1] B4) ?_
  refine TT.regionD (id := 1) (ops := (opsOf (sub [1, 0] B4))) [0, 1, 2, 3, 4, 5, 6, 7, 8, 9, 10, 11, 12, 13, 14, 15, 16, 17, 18, 19, 20, 21] [0, 0, 3, 7, 0, 0, 63, 127, 255, 511, 511, 2047, 4095, 511, 511, 32767, 65535, 131071, 262143, 524287, 1048575, 2097151] [(.look, some 1), (.pure, none), (.quiet, none), (.quiet, none), (.look, some 1), (.pure, none), (.quiet, none), (.pure, none), (.pure, none), (.look, some 1), (.look, some 0), (.quiet, none), (.quiet, none), (.look, some 1), (.look, some 0), (.quiet, none), (.pure, none), (.pure, none), (.pure, none), (.quiet, none), (.pure, none), (.pure, none)] mixed (by kernel_rfl) ?_
  intro w3 hl3 hj3 hz3
  refine DL.look (v := .agg #[.int .i64 a0_0, .int .i64 a0_1, .int .i64 a0_2, .int .i64 a0_3]) (x := 1) (b := b1) (i := 0) rfl (Wn.none rfl) rfl rfl rfl rfl rfl (List.mem_of_getElem? (i := 1) rfl) (b_loadA ty_a26 ty_s26 rfl rfl rfl) ?_
  refine DL.pu 8 (.int .i64 a2) rfl (p_move rfl rfl) ?_
  obtain ⟨t4, h5, h6⟩ := bind_some h
  refine DL.qu 9 (.int .i64 t4) rfl (f_call rfl rfl (args_val (vs := [.agg #[.int .i64 a0_0, .int .i64 a0_1, .int .i64 a0_2, .int .i64 a0_3], .int .i64 a2]) rfl) (fun w => enter17 _ w) (fun w => policy_Asked.val h5 w)) ?_
  obtain ⟨t7, h8, h9⟩ := bind_some h6
  refine DL.qu 10 (.int .i64 t7) rfl (f_call rfl rfl (args_val (vs := [.int .i64 t4]) rfl) (fun w => enter15 _ w) (fun w => law21_num.val h8 w)) ?_
  refine DL.look (v := .agg #[.int .i64 a0_0, .int .i64 a0_1, .int .i64 a0_2, .int .i64 a0_3]) (x := 1) (b := b1) (i := 4) rfl (Wn.none rfl) rfl rfl rfl rfl rfl (List.mem_of_getElem? (i := 1) rfl) (b_loadA ty_a26 ty_s26 rfl rfl rfl) ?_
  refine DL.pu 12 (.int .i64 a2) rfl (p_move rfl rfl) ?_
  obtain ⟨t10, h11, h12⟩ := bind_some h9
  refine DL.qu 13 (.int .i64 t10) rfl (f_call rfl rfl (args_val (vs := [.agg #[.int .i64 a0_0, .int .i64 a0_1, .int .i64 a0_2, .int .i64 a0_3], .int .i64 a2]) rfl) (fun w => enter18 _ w) (fun w => ref21_Asked.val h11 w)) ?_
  refine DL.pu 14 (.bool (t7 == t10)) rfl (p_eql rfl rfl rfl) ?_
  refine DL.pu 15 (.bool (t7 == t10)) rfl (p_move rfl rfl) ?_
  obtain ⟨q13, h14, h15⟩ := bind_some h12
  refine DL.cut [(24, .bool q13)] [18, 19, 20, 21] ?_ (fun J16 => ?_)
  · refine DL.pu 25 (.bool q13) rfl (p_move rfl rfl) ?_
    obtain ⟨q29, h30, h31⟩ := bind_some h15
    refine DL.cut [(27, .bool q29)] [21] ?_ (fun J32 => ?_)
    · refine DL.pu 6 (.bool q29) rfl (p_assign rfl rfl) ?_
      refine DL.nil' hl3 ?_
      obtain rfl := Option.some.inj h31
      exact ret1 Try.func4 rfl (ResV.tmp rfl) rfl
    · by_cases c33 : q13 = true
      · have h34 := ite_true c33 h30
        obtain ⟨t35, h36, h37⟩ := bind_some h34
        refine DL.quiet (v := .bool t35) rfl (Wn.yes c33 rfl rfl rfl rfl) rfl rfl rfl (f_call rfl rfl (args_val (vs := []) rfl) (fun w => enter16 _ w) (fun w => law21_known.val h36 w)) ?_
        refine DL.pu 27 (.bool t35) rfl (p_pick_t c33 rfl rfl rfl) ?_
        obtain rfl := Option.some.inj h37
        exact DL.weak J32 (Sub.cons rfl (Sub.nil _))
      · replace c33 := Bool.eq_false_iff.mpr c33
        have h38 := ite_false c33 h30
        refine DL.not (i := 19) rfl (Wn.no c33 rfl rfl rfl rfl) rfl rfl ?_
        refine DL.pu 27 (.bool false) rfl (p_pick_f c33 rfl rfl rfl) ?_
        obtain rfl := Option.some.inj h38
        exact DL.weak J32 (Sub.cons rfl (Sub.nil _))
  · by_cases c17 : (t7 == t10) = true
    · have h18 := ite_true c17 h14
      refine DL.look (v := .agg #[.int .i64 a0_0, .int .i64 a0_1, .int .i64 a0_2, .int .i64 a0_3]) (x := 1) (b := b1) (i := 9) rfl (Wn.yes c17 rfl rfl rfl rfl) rfl rfl rfl rfl rfl (List.mem_of_getElem? (i := 1) rfl) (b_loadA ty_a26 ty_s26 rfl rfl rfl) ?_
      refine DL.look (v := .agg #[.int .i64 a1_0, .int .i64 a1_1, .int .i64 a1_2, .int .i64 a1_3]) (x := 0) (b := b2) (i := 10) rfl (Wn.yes c17 rfl rfl rfl rfl) rfl rfl rfl rfl rfl (List.mem_of_getElem? (i := 0) rfl) (b_loadA ty_a26 ty_s26 rfl rfl rfl) ?_
      obtain ⟨t19, h20, h21⟩ := bind_some h18
      refine DL.quiet (v := .int .i64 t19) rfl (Wn.yes c17 rfl rfl rfl rfl) rfl rfl rfl (f_call rfl rfl (args_val (vs := [.agg #[.int .i64 a0_0, .int .i64 a0_1, .int .i64 a0_2, .int .i64 a0_3], .agg #[.int .i64 a1_0, .int .i64 a1_1, .int .i64 a1_2, .int .i64 a1_3]]) rfl) (fun w => enter19 _ w) (fun w => policy_Wraps.val h20 w)) ?_
      obtain ⟨t22, h23, h24⟩ := bind_some h21
      refine DL.quiet (v := .int .i64 t22) rfl (Wn.yes c17 rfl rfl rfl rfl) rfl rfl rfl (f_call rfl rfl (args_val (vs := [.int .i64 t19]) rfl) (fun w => enter15 _ w) (fun w => law21_num.val h23 w)) ?_
      refine DL.look (v := .agg #[.int .i64 a0_0, .int .i64 a0_1, .int .i64 a0_2, .int .i64 a0_3]) (x := 1) (b := b1) (i := 13) rfl (Wn.yes c17 rfl rfl rfl rfl) rfl rfl rfl rfl rfl (List.mem_of_getElem? (i := 1) rfl) (b_loadA ty_a26 ty_s26 rfl rfl rfl) ?_
      refine DL.look (v := .agg #[.int .i64 a1_0, .int .i64 a1_1, .int .i64 a1_2, .int .i64 a1_3]) (x := 0) (b := b2) (i := 14) rfl (Wn.yes c17 rfl rfl rfl rfl) rfl rfl rfl rfl rfl (List.mem_of_getElem? (i := 0) rfl) (b_loadA ty_a26 ty_s26 rfl rfl rfl) ?_
      obtain ⟨t25, h26, h27⟩ := bind_some h24
      refine DL.quiet (v := .int .i64 t25) rfl (Wn.yes c17 rfl rfl rfl rfl) rfl rfl rfl (f_call rfl rfl (args_val (vs := [.agg #[.int .i64 a0_0, .int .i64 a0_1, .int .i64 a0_2, .int .i64 a0_3], .agg #[.int .i64 a1_0, .int .i64 a1_1, .int .i64 a1_2, .int .i64 a1_3]]) rfl) (fun w => enter20 _ w) (fun w => ref21_Wraps.val h26 w)) ?_
      refine DL.pure (v := .bool (t22 == t25)) rfl (Wn.yes c17 rfl rfl rfl rfl) rfl rfl rfl (p_eql rfl rfl rfl) ?_
      refine DL.pu 24 (.bool (t22 == t25)) rfl (p_pick_t c17 rfl rfl rfl) ?_
      obtain rfl := Option.some.inj h27
      exact DL.weak J16 (Sub.cons rfl (Sub.nil _))
    · replace c17 := Bool.eq_false_iff.mpr c17
      have h28 := ite_false c17 h14
      refine DL.not (i := 9) rfl (Wn.no c17 rfl rfl rfl rfl) rfl rfl ?_
      refine DL.not (i := 10) rfl (Wn.no c17 rfl rfl rfl rfl) rfl rfl ?_
      refine DL.not (i := 11) rfl (Wn.no c17 rfl rfl rfl rfl) rfl rfl ?_
      refine DL.not (i := 12) rfl (Wn.no c17 rfl rfl rfl rfl) rfl rfl ?_
      refine DL.not (i := 13) rfl (Wn.no c17 rfl rfl rfl rfl) rfl rfl ?_
      refine DL.not (i := 14) rfl (Wn.no c17 rfl rfl rfl rfl) rfl rfl ?_
      refine DL.not (i := 15) rfl (Wn.no c17 rfl rfl rfl rfl) rfl rfl ?_
      refine DL.not (i := 16) rfl (Wn.no c17 rfl rfl rfl rfl) rfl rfl ?_
      refine DL.pu 24 (.bool false) rfl (p_pick_f c17 rfl rfl rfl) ?_
      obtain rfl := Option.some.inj h28
      exact DL.weak J16 (Sub.cons rfl (Sub.nil _))
theorem law21_PolicyRules.val {a0_0 : Int} {a0_1 : Int} {a0_2 : Int} {a0_3 : Int} {a1_0 : Int} {a1_1 : Int} {a1_2 : Int} {a1_3 : Int} {a2 : Int} {r : Bool} (h : law21_PolicyRules.f a0_0 a0_1 a0_2 a0_3 a1_0 a1_1 a1_2 a1_3 a2 = some r) (w : World) : Calls Try.prog 4 #[.agg #[.int .i64 a0_0, .int .i64 a0_1, .int .i64 a0_2, .int .i64 a0_3], .agg #[.int .i64 a1_0, .int .i64 a1_1, .int .i64 a1_2, .int .i64 a1_3], .int .i64 a2] w fun e w' => e = .returned (.bool r) ∧ Below w.heap.size w w' :=
  calls_value (law21_PolicyRules.ok h w)

end Go.Proofs.Ytbnmoonelaolcaa
