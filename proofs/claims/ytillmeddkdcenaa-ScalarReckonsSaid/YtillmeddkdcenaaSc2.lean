import Derived.Test.YtillmeddkdcenaaSc1
namespace Go.Proofs.Ytillmeddkdcenaa
open Go Go.HW Go.RowKit
set_option linter.unusedVariables false
set_option linter.unusedSimpArgs false

/-! ### escutcheon/escutcheonlaw03.ScalarSigns: function 3 -/
noncomputable def B3 : Code := bodyOf Try.f3
def law03_ScalarSigns.f (a0 : List Int) (a1 : List Int) : Option (Bool) := (scalar_MulAdd.f a0 (1 :: List.replicate 31 0) (List.replicate 32 0)).bind fun t4 => (scalar_Neg.f a0).bind fun t8 => (scalar_Neg.f t8).bind fun t13 => (if (t13 == t4) = true then ((scalar_MulAdd.f a0 a1 (List.replicate 32 0)).bind fun t22 => (scalar_MulAdd.f t8 a1 t22).bind fun t25 => some (t25 == (List.replicate 32 0))) else (some false)).bind fun q16 => (if q16 = true then ((scalar_Neg.f a1).bind fun t35 => (scalar_MulAdd.f t8 t35 (List.replicate 32 0)).bind fun t38 => (scalar_MulAdd.f a0 a1 (List.replicate 32 0)).bind fun t41 => some (t38 == t41)) else (some false)).bind fun q29 => (if q29 = true then ((law03_known.f).bind fun t51 => some t51) else (some false)).bind fun q45 => some q45
set_option maxRecDepth 20000 in
theorem law03_ScalarSigns.ok {a0 : List Int} {a1 : List Int} {r : Bool} (l_a0 : a0.length = 32) (l_a1 : a1.length = 32) (h : law03_ScalarSigns.f a0 a1 = some r) (w : World) : Calls Try.prog 3 #[.agg (enc .u8 a0), .agg (enc .u8 a1)] w (Post (fun u => u = .bool r) w) := by
  unfold law03_ScalarSigns.f at h
  refine calls_of_TT (N := 45) (S := [(0, .agg (enc .u8 a0)), (1, .agg (enc .u8 a1))]) (c := B3) Try.func3 rfl rfl rfl (by simp) ?_
  show TT _ _ _ _ _ _ [.code (sub [] B3)] _ _
  refine TT.seq (x := sub [0] B3) (y := sub [1] B3) ?_
  refine TT.region (id := 0) (n := 3) (ops := (opsOf (sub [0] B3))) [(.alloc, none), (.alloc, none), (.pure, none)] rfl ?_
  show DL _ _ _ _ _ _ _ _ _ _ [0, 1, 2] _ _
  refine DL.new (ob := .cells (enc .u8 a0) 23) (mk := fun b => ptr b 0) (i := 0) rfl (Wn.none rfl) rfl rfl rfl (f_box (v := .agg (enc .u8 a0)) rfl rfl) ?_
  intro b1 hb1
  refine DL.new (ob := .cells (enc .u8 a1) 23) (mk := fun b => ptr b 0) (i := 1) rfl (Wn.none rfl) rfl rfl rfl (f_box (v := .agg (enc .u8 a1)) rfl rfl) ?_
  intro b2 hb2
  refine DL.pu 4 (.bool false) rfl (p_assign rfl rfl) ?_
  refine DL.nil ?_
  refine TT.seq (x := sub [1, 0] B3) (y := sub [1, 1] B3) ?_
  refine TT.region (id := 1) (n := 3) (ops := (opsOf (sub [1, 0] B3))) [(.pure, none), (.alloc, none), (.store, none)] rfl ?_
  show DL _ _ _ _ _ _ _ _ _ _ [0, 1, 2] _ _
  refine DL.pu 8 (.agg (enc .u8 (1 :: List.replicate 31 0))) rfl (p_build (vs := [(0, .int .u8 1)]) (fun w => by kernel_rfl) rfl rfl) ?_
  refine DL.new (ob := .cells (enc .u8 (List.replicate 32 0)) 23) (mk := fun b => ptr b 0) (i := 1) rfl (Wn.none rfl) rfl rfl rfl (f_alloc ty_z23 rfl) ?_
  intro b3 hb3
  refine DL.put (H' := [(some b3, .cells (enc .u8 (1 :: List.replicate 31 0)) 23 (0, 0)), (some b2, .cells (enc .u8 a1) 23 (0, 0)), (some b1, .cells (enc .u8 a0) 23 (0, 0))]) (i := 2) rfl (Wn.none rfl) rfl rfl (f_storeA (j := 0) ty_s23 rfl (enc_sz (by simp)) (enc_sz (List.length_replicate)) (enc_oneCell _ _) rfl rfl rfl) (keep_none rfl) ?_
  refine DL.nil ?_
  refine TT.seq (x := sub [1, 1, 0] B3) (y := sub [1, 1, 1] B3) ?_
  refine TT.region (id := 2) (n := 6) (ops := (opsOf (sub [1, 1, 0] B3))) [(.quiet, none), (.quiet, none), (.pure, none), (.quiet, none), (.alloc, none), (.store, none)] rfl ?_
  show DL _ _ _ _ _ _ _ _ _ _ [0, 1, 2, 3, 4, 5] _ _
  refine DL.qu 9 (.agg (enc .u8 a0)) rfl (f_loadA (j := 2) ty_a23 ty_s23 rfl (enc_sz l_a0) rfl rfl) ?_
  refine DL.qu 10 (.agg (enc .u8 (1 :: List.replicate 31 0))) rfl (f_loadA (j := 0) ty_a23 ty_s23 rfl (enc_sz (by simp)) rfl rfl) ?_
  refine DL.pu 11 (.agg (enc .u8 (List.replicate 32 0))) rfl (p_build (vs := []) (fun w => by kernel_rfl) rfl rfl) ?_
  obtain ⟨t4, h5, h6⟩ := bind_some h
  have l_t4 := scalar_MulAdd.len l_a0 (by simp) (by simp) h5
  refine DL.qu 12 (.agg (enc .u8 t4)) rfl (f_call rfl rfl (args_val (vs := [.agg (enc .u8 a0), .agg (enc .u8 (1 :: List.replicate 31 0)), .agg (enc .u8 (List.replicate 32 0))]) rfl) (fun w => enter8 _ w) (fun w => scalar_MulAdd.val l_a0 (by simp) (by simp) h5 w)) ?_
  refine DL.new (ob := .cells (enc .u8 (List.replicate 32 0)) 23) (mk := fun b => ptr b 0) (i := 4) rfl (Wn.none rfl) rfl rfl rfl (f_alloc ty_z23 rfl) ?_
  intro b7 hb7
  refine DL.put (H' := [(some b7, .cells (enc .u8 t4) 23 (0, 0)), (some b3, .cells (enc .u8 (1 :: List.replicate 31 0)) 23 (0, 0)), (some b2, .cells (enc .u8 a1) 23 (0, 0)), (some b1, .cells (enc .u8 a0) 23 (0, 0))]) (i := 5) rfl (Wn.none rfl) rfl rfl (f_storeA (j := 0) ty_s23 rfl (enc_sz l_t4) (enc_sz (List.length_replicate)) (enc_oneCell _ _) rfl rfl rfl) (keep_none rfl) ?_
  refine DL.nil ?_
  refine TT.seq (x := sub [1, 1, 1, 0] B3) (y := sub [1, 1, 1, 1] B3) ?_
  refine TT.region (id := 3) (n := 4) (ops := (opsOf (sub [1, 1, 1, 0] B3))) [(.quiet, none), (.quiet, none), (.alloc, none), (.store, none)] rfl ?_
  show DL _ _ _ _ _ _ _ _ _ _ [0, 1, 2, 3] _ _
  refine DL.qu 13 (.agg (enc .u8 a0)) rfl (f_loadA (j := 3) ty_a23 ty_s23 rfl (enc_sz l_a0) rfl rfl) ?_
  obtain ⟨t8, h9, h10⟩ := bind_some h6
  have l_t8 := scalar_Neg.len l_a0 h9
  refine DL.qu 14 (.agg (enc .u8 t8)) rfl (f_call rfl rfl (args_val (vs := [.agg (enc .u8 a0)]) rfl) (fun w => enter9 _ w) (fun w => scalar_Neg.val l_a0 h9 w)) ?_
  refine DL.new (ob := .cells (enc .u8 (List.replicate 32 0)) 23) (mk := fun b => ptr b 0) (i := 2) rfl (Wn.none rfl) rfl rfl rfl (f_alloc ty_z23 rfl) ?_
  intro b11 hb11
  refine DL.put (H' := [(some b11, .cells (enc .u8 t8) 23 (0, 0)), (some b7, .cells (enc .u8 t4) 23 (0, 0)), (some b3, .cells (enc .u8 (1 :: List.replicate 31 0)) 23 (0, 0)), (some b2, .cells (enc .u8 a1) 23 (0, 0)), (some b1, .cells (enc .u8 a0) 23 (0, 0))]) (i := 3) rfl (Wn.none rfl) rfl rfl (f_storeA (j := 0) ty_s23 rfl (enc_sz l_t8) (enc_sz (List.length_replicate)) (enc_oneCell _ _) rfl rfl rfl) (keep_none rfl) ?_
  refine DL.nil ?_
  refine TT.seq (x := sub [1, 1, 1, 1, 0] B3) (y := sub [1, 1, 1, 1, 1] B3) ?_
  refine TT.regionD (id := 4) (ops := (opsOf (sub [1, 1, 1, 1, 0] B3))) [0, 1, 2, 3, 4, 5, 6, 7, 8, 9, 10, 11, 12, 13, 14, 15, 16, 17, 18, 19, 20, 21, 22, 23, 24, 25, 26, 27, 28, 29, 30] [0, 1, 0, 7, 15, 31, 31, 31, 31, 31, 927, 2047, 31, 8191, 16383, 32767, 65535, 65535, 196607, 65535, 1048575, 65535, 65535, 65535, 16777215, 33554431, 67108863, 134217727, 268435455, 536870911, 1073741823] [(.look, some 0), (.quiet, none), (.look, some 1), (.pure, none), (.pure, none), (.look, some 0), (.look, some 3), (.look, some 4), (.look, some 3), (.pure, none), (.quiet, none), (.quiet, none), (.pure, none), (.pure, none), (.pure, none), (.pure, none), (.look, some 0), (.look, some 3), (.quiet, none), (.pure, none), (.quiet, none), (.look, some 4), (.look, some 3), (.pure, none), (.quiet, none), (.pure, none), (.pure, none), (.pure, none), (.quiet, none), (.pure, none), (.pure, none)] mixed (by kernel_rfl) ?_
  intro w12 hl12 hj12 hz12
  refine DL.look (v := .agg (enc .u8 t8)) (x := 0) (b := b11) (i := 0) rfl (Wn.none rfl) rfl rfl rfl rfl rfl (List.mem_of_getElem? (i := 0) rfl) (b_loadA ty_a23 ty_s23 (enc_sz l_t8) rfl rfl) ?_
  obtain ⟨t13, h14, h15⟩ := bind_some h10
  have l_t13 := scalar_Neg.len l_t8 h14
  refine DL.qu 16 (.agg (enc .u8 t13)) rfl (f_call rfl rfl (args_val (vs := [.agg (enc .u8 t8)]) rfl) (fun w => enter9 _ w) (fun w => scalar_Neg.val l_t8 h14 w)) ?_
  refine DL.look (v := .agg (enc .u8 t4)) (x := 1) (b := b7) (i := 2) rfl (Wn.none rfl) rfl rfl rfl rfl rfl (List.mem_of_getElem? (i := 1) rfl) (b_loadA ty_a23 ty_s23 (enc_sz l_t4) rfl rfl) ?_
  refine DL.pu 18 (.bool (t13 == t4)) rfl (p_eqAgg ty_g23 (fun w => run_eqRow (d := 9998) ty_ue23 ty_s5 ty_a5 ty_ue5 l_t13 l_t4 w) rfl rfl rfl) ?_
  refine DL.pu 19 (.bool (t13 == t4)) rfl (p_move rfl rfl) ?_
  obtain ⟨q16, h17, h18⟩ := bind_some h15
  refine DL.cut [(2, ptr b1 0), (3, ptr b2 0), (7, ptr b11 0), (29, .bool q16)] [15, 16, 17, 18, 19, 20, 21, 22, 23, 24, 25, 26, 27, 28, 29, 30] ?_ (fun J19 => ?_)
  · refine DL.pu 30 (.bool q16) rfl (p_move rfl rfl) ?_
    obtain ⟨q29, h30, h31⟩ := bind_some h18
    refine DL.cut [(41, .bool q29)] [27, 28, 29, 30] ?_ (fun J32 => ?_)
    · refine DL.pu 42 (.bool q29) rfl (p_move rfl rfl) ?_
      obtain ⟨q45, h46, h47⟩ := bind_some h31
      refine DL.cut [(44, .bool q45)] [30] ?_ (fun J48 => ?_)
      · refine DL.pu 4 (.bool q45) rfl (p_assign rfl rfl) ?_
        refine DL.nil' hl12 ?_
        obtain rfl := Option.some.inj h47
        exact ret1 Try.func3 rfl (ResV.tmp rfl) rfl
      · by_cases c49 : q29 = true
        · have h50 := ite_true c49 h46
          obtain ⟨t51, h52, h53⟩ := bind_some h50
          refine DL.quiet (v := .bool t51) rfl (Wn.yes c49 rfl rfl rfl rfl) rfl rfl rfl (f_call rfl rfl (args_val (vs := []) rfl) (fun w => enter10 _ w) (fun w => law03_known.val h52 w)) ?_
          refine DL.pu 44 (.bool t51) rfl (p_pick_t c49 rfl rfl rfl) ?_
          obtain rfl := Option.some.inj h53
          exact DL.weak J48 (Sub.cons rfl (Sub.nil _))
        · replace c49 := Bool.eq_false_iff.mpr c49
          have h54 := ite_false c49 h46
          refine DL.not (i := 28) rfl (Wn.no c49 rfl rfl rfl rfl) rfl rfl ?_
          refine DL.pu 44 (.bool false) rfl (p_pick_f c49 rfl rfl rfl) ?_
          obtain rfl := Option.some.inj h54
          exact DL.weak J48 (Sub.cons rfl (Sub.nil _))
    · by_cases c33 : q16 = true
      · have h34 := ite_true c33 h30
        refine DL.look (v := .agg (enc .u8 t8)) (x := 0) (b := b11) (i := 16) rfl (Wn.yes c33 rfl rfl rfl rfl) rfl rfl rfl rfl rfl (List.mem_of_getElem? (i := 0) rfl) (b_loadA ty_a23 ty_s23 (enc_sz l_t8) rfl rfl) ?_
        refine DL.look (v := .agg (enc .u8 a1)) (x := 3) (b := b2) (i := 17) rfl (Wn.yes c33 rfl rfl rfl rfl) rfl rfl rfl rfl rfl (List.mem_of_getElem? (i := 3) rfl) (b_loadA ty_a23 ty_s23 (enc_sz l_a1) rfl rfl) ?_
        obtain ⟨t35, h36, h37⟩ := bind_some h34
        have l_t35 := scalar_Neg.len l_a1 h36
        refine DL.quiet (v := .agg (enc .u8 t35)) rfl (Wn.yes c33 rfl rfl rfl rfl) rfl rfl rfl (f_call rfl rfl (args_val (vs := [.agg (enc .u8 a1)]) rfl) (fun w => enter9 _ w) (fun w => scalar_Neg.val l_a1 h36 w)) ?_
        refine DL.pure (v := .agg (enc .u8 (List.replicate 32 0))) rfl (Wn.yes c33 rfl rfl rfl rfl) rfl rfl rfl (p_build (vs := []) (fun w => by kernel_rfl) rfl rfl) ?_
        obtain ⟨t38, h39, h40⟩ := bind_some h37
        have l_t38 := scalar_MulAdd.len l_t8 l_t35 (by simp) h39
        refine DL.quiet (v := .agg (enc .u8 t38)) rfl (Wn.yes c33 rfl rfl rfl rfl) rfl rfl rfl (f_call rfl rfl (args_val (vs := [.agg (enc .u8 t8), .agg (enc .u8 t35), .agg (enc .u8 (List.replicate 32 0))]) rfl) (fun w => enter8 _ w) (fun w => scalar_MulAdd.val l_t8 l_t35 (by simp) h39 w)) ?_
        refine DL.look (v := .agg (enc .u8 a0)) (x := 4) (b := b1) (i := 21) rfl (Wn.yes c33 rfl rfl rfl rfl) rfl rfl rfl rfl rfl (List.mem_of_getElem? (i := 4) rfl) (b_loadA ty_a23 ty_s23 (enc_sz l_a0) rfl rfl) ?_
        refine DL.look (v := .agg (enc .u8 a1)) (x := 3) (b := b2) (i := 22) rfl (Wn.yes c33 rfl rfl rfl rfl) rfl rfl rfl rfl rfl (List.mem_of_getElem? (i := 3) rfl) (b_loadA ty_a23 ty_s23 (enc_sz l_a1) rfl rfl) ?_
        refine DL.pure (v := .agg (enc .u8 (List.replicate 32 0))) rfl (Wn.yes c33 rfl rfl rfl rfl) rfl rfl rfl (p_build (vs := []) (fun w => by kernel_rfl) rfl rfl) ?_
        obtain ⟨t41, h42, h43⟩ := bind_some h40
        have l_t41 := scalar_MulAdd.len l_a0 l_a1 (by simp) h42
        refine DL.quiet (v := .agg (enc .u8 t41)) rfl (Wn.yes c33 rfl rfl rfl rfl) rfl rfl rfl (f_call rfl rfl (args_val (vs := [.agg (enc .u8 a0), .agg (enc .u8 a1), .agg (enc .u8 (List.replicate 32 0))]) rfl) (fun w => enter8 _ w) (fun w => scalar_MulAdd.val l_a0 l_a1 (by simp) h42 w)) ?_
        refine DL.pure (v := .bool (t38 == t41)) rfl (Wn.yes c33 rfl rfl rfl rfl) rfl rfl rfl (p_eqAgg ty_g23 (fun w => run_eqRow (d := 9998) ty_ue23 ty_s5 ty_a5 ty_ue5 l_t38 l_t41 w) rfl rfl rfl) ?_
        refine DL.pu 41 (.bool (t38 == t41)) rfl (p_pick_t c33 rfl rfl rfl) ?_
        obtain rfl := Option.some.inj h43
        exact DL.weak J32 (Sub.cons rfl (Sub.nil _))
      · replace c33 := Bool.eq_false_iff.mpr c33
        have h44 := ite_false c33 h30
        refine DL.not (i := 16) rfl (Wn.no c33 rfl rfl rfl rfl) rfl rfl ?_
        refine DL.not (i := 17) rfl (Wn.no c33 rfl rfl rfl rfl) rfl rfl ?_
        refine DL.not (i := 18) rfl (Wn.no c33 rfl rfl rfl rfl) rfl rfl ?_
        refine DL.not (i := 19) rfl (Wn.no c33 rfl rfl rfl rfl) rfl rfl ?_
        refine DL.not (i := 20) rfl (Wn.no c33 rfl rfl rfl rfl) rfl rfl ?_
        refine DL.not (i := 21) rfl (Wn.no c33 rfl rfl rfl rfl) rfl rfl ?_
        refine DL.not (i := 22) rfl (Wn.no c33 rfl rfl rfl rfl) rfl rfl ?_
        refine DL.not (i := 23) rfl (Wn.no c33 rfl rfl rfl rfl) rfl rfl ?_
        refine DL.not (i := 24) rfl (Wn.no c33 rfl rfl rfl rfl) rfl rfl ?_
        refine DL.not (i := 25) rfl (Wn.no c33 rfl rfl rfl rfl) rfl rfl ?_
        refine DL.pu 41 (.bool false) rfl (p_pick_f c33 rfl rfl rfl) ?_
        obtain rfl := Option.some.inj h44
        exact DL.weak J32 (Sub.cons rfl (Sub.nil _))
  · by_cases c20 : (t13 == t4) = true
    · have h21 := ite_true c20 h17
      refine DL.look (v := .agg (enc .u8 t8)) (x := 0) (b := b11) (i := 5) rfl (Wn.yes c20 rfl rfl rfl rfl) rfl rfl rfl rfl rfl (List.mem_of_getElem? (i := 0) rfl) (b_loadA ty_a23 ty_s23 (enc_sz l_t8) rfl rfl) ?_
      refine DL.look (v := .agg (enc .u8 a1)) (x := 3) (b := b2) (i := 6) rfl (Wn.yes c20 rfl rfl rfl rfl) rfl rfl rfl rfl rfl (List.mem_of_getElem? (i := 3) rfl) (b_loadA ty_a23 ty_s23 (enc_sz l_a1) rfl rfl) ?_
      refine DL.look (v := .agg (enc .u8 a0)) (x := 4) (b := b1) (i := 7) rfl (Wn.yes c20 rfl rfl rfl rfl) rfl rfl rfl rfl rfl (List.mem_of_getElem? (i := 4) rfl) (b_loadA ty_a23 ty_s23 (enc_sz l_a0) rfl rfl) ?_
      refine DL.look (v := .agg (enc .u8 a1)) (x := 3) (b := b2) (i := 8) rfl (Wn.yes c20 rfl rfl rfl rfl) rfl rfl rfl rfl rfl (List.mem_of_getElem? (i := 3) rfl) (b_loadA ty_a23 ty_s23 (enc_sz l_a1) rfl rfl) ?_
      refine DL.pure (v := .agg (enc .u8 (List.replicate 32 0))) rfl (Wn.yes c20 rfl rfl rfl rfl) rfl rfl rfl (p_build (vs := []) (fun w => by kernel_rfl) rfl rfl) ?_
      obtain ⟨t22, h23, h24⟩ := bind_some h21
      have l_t22 := scalar_MulAdd.len l_a0 l_a1 (by simp) h23
      refine DL.quiet (v := .agg (enc .u8 t22)) rfl (Wn.yes c20 rfl rfl rfl rfl) rfl rfl rfl (f_call rfl rfl (args_val (vs := [.agg (enc .u8 a0), .agg (enc .u8 a1), .agg (enc .u8 (List.replicate 32 0))]) rfl) (fun w => enter8 _ w) (fun w => scalar_MulAdd.val l_a0 l_a1 (by simp) h23 w)) ?_
      obtain ⟨t25, h26, h27⟩ := bind_some h24
      have l_t25 := scalar_MulAdd.len l_t8 l_a1 l_t22 h26
      refine DL.quiet (v := .agg (enc .u8 t25)) rfl (Wn.yes c20 rfl rfl rfl rfl) rfl rfl rfl (f_call rfl rfl (args_val (vs := [.agg (enc .u8 t8), .agg (enc .u8 a1), .agg (enc .u8 t22)]) rfl) (fun w => enter8 _ w) (fun w => scalar_MulAdd.val l_t8 l_a1 l_t22 h26 w)) ?_
      refine DL.pure (v := .agg (enc .u8 (List.replicate 32 0))) rfl (Wn.yes c20 rfl rfl rfl rfl) rfl rfl rfl (p_build (vs := []) (fun w => by kernel_rfl) rfl rfl) ?_
      refine DL.pure (v := .bool (t25 == (List.replicate 32 0))) rfl (Wn.yes c20 rfl rfl rfl rfl) rfl rfl rfl (p_eqAgg ty_g23 (fun w => run_eqRow (d := 9998) ty_ue23 ty_s5 ty_a5 ty_ue5 l_t25 (by simp) w) rfl rfl rfl) ?_
      refine DL.pu 29 (.bool (t25 == (List.replicate 32 0))) rfl (p_pick_t c20 rfl rfl rfl) ?_
      obtain rfl := Option.some.inj h27
      exact DL.weak J19 (Sub.cons rfl (Sub.cons rfl (Sub.cons rfl (Sub.cons rfl (Sub.nil _)))))
    · replace c20 := Bool.eq_false_iff.mpr c20
      have h28 := ite_false c20 h17
      refine DL.not (i := 5) rfl (Wn.no c20 rfl rfl rfl rfl) rfl rfl ?_
      refine DL.not (i := 6) rfl (Wn.no c20 rfl rfl rfl rfl) rfl rfl ?_
      refine DL.not (i := 7) rfl (Wn.no c20 rfl rfl rfl rfl) rfl rfl ?_
      refine DL.not (i := 8) rfl (Wn.no c20 rfl rfl rfl rfl) rfl rfl ?_
      refine DL.not (i := 9) rfl (Wn.no c20 rfl rfl rfl rfl) rfl rfl ?_
      refine DL.not (i := 10) rfl (Wn.no c20 rfl rfl rfl rfl) rfl rfl ?_
      refine DL.not (i := 11) rfl (Wn.no c20 rfl rfl rfl rfl) rfl rfl ?_
      refine DL.not (i := 12) rfl (Wn.no c20 rfl rfl rfl rfl) rfl rfl ?_
      refine DL.not (i := 13) rfl (Wn.no c20 rfl rfl rfl rfl) rfl rfl ?_
      refine DL.pu 29 (.bool false) rfl (p_pick_f c20 rfl rfl rfl) ?_
      obtain rfl := Option.some.inj h28
      exact DL.weak J19 (Sub.cons rfl (Sub.cons rfl (Sub.cons rfl (Sub.cons rfl (Sub.nil _)))))
theorem law03_ScalarSigns.val {a0 : List Int} {a1 : List Int} {r : Bool} (l_a0 : a0.length = 32) (l_a1 : a1.length = 32) (h : law03_ScalarSigns.f a0 a1 = some r) (w : World) : Calls Try.prog 3 #[.agg (enc .u8 a0), .agg (enc .u8 a1)] w fun e w' => e = .returned (.bool r) ∧ Below w.heap.size w w' :=
  calls_value (law03_ScalarSigns.ok l_a0 l_a1 h w)

/-! ### escutcheon/escutcheonlaw03.ScalarIs: function 4 -/
noncomputable def B4 : Code := bodyOf Try.f4
def law03_ScalarIs.f (a0 : List Int) (a1 : List Int) (a2 : List Int) : Option (Bool) := (scalar_MulAdd.f a0 a1 (List.replicate 32 0)).bind fun t6 => (scalar_MulAdd.f a0 a2 (List.replicate 32 0)).bind fun t9 => (scalar_MulAdd.f a1 a0 (List.replicate 32 0)).bind fun t15 => (if (t15 == t6) = true then ((scalar_Add.f a1 a2).bind fun t24 => (scalar_MulAdd.f a0 t24 (List.replicate 32 0)).bind fun t27 => (scalar_Add.f t6 t9).bind fun t30 => some (t27 == t30)) else (some false)).bind fun q18 => (if q18 = true then ((scalar_MulAdd.f t6 a2 (List.replicate 32 0)).bind fun t40 => (scalar_MulAdd.f a1 a2 (List.replicate 32 0)).bind fun t43 => (scalar_MulAdd.f a0 t43 (List.replicate 32 0)).bind fun t46 => some (t40 == t46)) else (some false)).bind fun q34 => (if q34 = true then ((scalar_Add.f a0 a1).bind fun t56 => (scalar_Add.f t56 a2).bind fun t59 => (scalar_Add.f a1 a2).bind fun t62 => (scalar_Add.f a0 t62).bind fun t65 => some (t59 == t65)) else (some false)).bind fun q50 => (if q50 = true then ((scalar_MulAdd.f a0 a1 a2).bind fun t75 => (scalar_Add.f t6 a2).bind fun t78 => some (t75 == t78)) else (some false)).bind fun q69 => (if q69 = true then ((law03_known.f).bind fun t88 => some t88) else (some false)).bind fun q82 => some q82
set_option maxRecDepth 20000 in
theorem law03_ScalarIs.ok {a0 : List Int} {a1 : List Int} {a2 : List Int} {r : Bool} (l_a0 : a0.length = 32) (l_a1 : a1.length = 32) (l_a2 : a2.length = 32) (h : law03_ScalarIs.f a0 a1 a2 = some r) (w : World) : Calls Try.prog 4 #[.agg (enc .u8 a0), .agg (enc .u8 a1), .agg (enc .u8 a2)] w (Post (fun u => u = .bool r) w) := by
  unfold law03_ScalarIs.f at h
  refine calls_of_TT (N := 76) (S := [(0, .agg (enc .u8 a0)), (1, .agg (enc .u8 a1)), (2, .agg (enc .u8 a2))]) (c := B4) Try.func4 rfl rfl rfl (by simp) ?_
  show TT _ _ _ _ _ _ [.code (sub [] B4)] _ _
  refine TT.seq (x := sub [0] B4) (y := sub [1] B4) ?_
  refine TT.region (id := 0) (n := 4) (ops := (opsOf (sub [0] B4))) [(.alloc, none), (.alloc, none), (.alloc, none), (.pure, none)] rfl ?_
  show DL _ _ _ _ _ _ _ _ _ _ [0, 1, 2, 3] _ _
  refine DL.new (ob := .cells (enc .u8 a0) 23) (mk := fun b => ptr b 0) (i := 0) rfl (Wn.none rfl) rfl rfl rfl (f_box (v := .agg (enc .u8 a0)) rfl rfl) ?_
  intro b1 hb1
  refine DL.new (ob := .cells (enc .u8 a1) 23) (mk := fun b => ptr b 0) (i := 1) rfl (Wn.none rfl) rfl rfl rfl (f_box (v := .agg (enc .u8 a1)) rfl rfl) ?_
  intro b2 hb2
  refine DL.new (ob := .cells (enc .u8 a2) 23) (mk := fun b => ptr b 0) (i := 2) rfl (Wn.none rfl) rfl rfl rfl (f_box (v := .agg (enc .u8 a2)) rfl rfl) ?_
  intro b3 hb3
  refine DL.pu 6 (.bool false) rfl (p_assign rfl rfl) ?_
  refine DL.nil ?_
  refine TT.seq (x := sub [1, 0] B4) (y := sub [1, 1] B4) ?_
  refine TT.region (id := 1) (n := 1) (ops := (opsOf (sub [1, 0] B4))) [(.alloc, none)] rfl ?_
  show DL _ _ _ _ _ _ _ _ _ _ [0] _ _
  refine DL.new (ob := .cells (enc .u8 (List.replicate 32 0)) 23) (mk := fun b => ptr b 0) (i := 0) rfl (Wn.none rfl) rfl rfl rfl (f_alloc ty_z23 rfl) ?_
  intro b4 hb4
  refine DL.nil ?_
  refine TT.seq (x := sub [1, 1, 0] B4) (y := sub [1, 1, 1] B4) ?_
  refine TT.regionD (id := 2) (ops := (opsOf (sub [1, 1, 0] B4))) [0, 1, 2, 3, 4, 5, 6, 7, 8, 9, 10, 11] [0, 0, 0, 7, 0, 0, 0, 127, 0, 0, 1023, 2047] [(.look, some 3), (.look, some 2), (.look, some 0), (.quiet, none), (.look, some 3), (.look, some 1), (.look, some 0), (.quiet, none), (.alloc, none), (.alloc, none), (.store, some 108), (.store, some 109)] mixed (by kernel_rfl) ?_
  intro w5 hl5 hj5 hz5
  refine DL.look (v := .agg (enc .u8 a0)) (x := 3) (b := b1) (i := 0) rfl (Wn.none rfl) rfl rfl rfl rfl rfl (List.mem_of_getElem? (i := 3) rfl) (b_loadA ty_a23 ty_s23 (enc_sz l_a0) rfl rfl) ?_
  refine DL.look (v := .agg (enc .u8 a1)) (x := 2) (b := b2) (i := 1) rfl (Wn.none rfl) rfl rfl rfl rfl rfl (List.mem_of_getElem? (i := 2) rfl) (b_loadA ty_a23 ty_s23 (enc_sz l_a1) rfl rfl) ?_
  refine DL.look (v := .agg (enc .u8 (List.replicate 32 0))) (x := 0) (b := b4) (i := 2) rfl (Wn.none rfl) rfl rfl rfl rfl rfl (List.mem_of_getElem? (i := 0) rfl) (b_loadA ty_a23 ty_s23 (enc_sz (List.length_replicate)) rfl rfl) ?_
  obtain ⟨t6, h7, h8⟩ := bind_some h
  have l_t6 := scalar_MulAdd.len l_a0 l_a1 (List.length_replicate) h7
  refine DL.qu 13 (.agg (enc .u8 t6)) rfl (f_call rfl rfl (args_val (vs := [.agg (enc .u8 a0), .agg (enc .u8 a1), .agg (enc .u8 (List.replicate 32 0))]) rfl) (fun w => enter8 _ w) (fun w => scalar_MulAdd.val l_a0 l_a1 (List.length_replicate) h7 w)) ?_
  refine DL.look (v := .agg (enc .u8 a0)) (x := 3) (b := b1) (i := 4) rfl (Wn.none rfl) rfl rfl rfl rfl rfl (List.mem_of_getElem? (i := 3) rfl) (b_loadA ty_a23 ty_s23 (enc_sz l_a0) rfl rfl) ?_
  refine DL.look (v := .agg (enc .u8 a2)) (x := 1) (b := b3) (i := 5) rfl (Wn.none rfl) rfl rfl rfl rfl rfl (List.mem_of_getElem? (i := 1) rfl) (b_loadA ty_a23 ty_s23 (enc_sz l_a2) rfl rfl) ?_
  refine DL.look (v := .agg (enc .u8 (List.replicate 32 0))) (x := 0) (b := b4) (i := 6) rfl (Wn.none rfl) rfl rfl rfl rfl rfl (List.mem_of_getElem? (i := 0) rfl) (b_loadA ty_a23 ty_s23 (enc_sz (List.length_replicate)) rfl rfl) ?_
  obtain ⟨t9, h10, h11⟩ := bind_some h8
  have l_t9 := scalar_MulAdd.len l_a0 l_a2 (List.length_replicate) h10
  refine DL.qu 17 (.agg (enc .u8 t9)) rfl (f_call rfl rfl (args_val (vs := [.agg (enc .u8 a0), .agg (enc .u8 a2), .agg (enc .u8 (List.replicate 32 0))]) rfl) (fun w => enter8 _ w) (fun w => scalar_MulAdd.val l_a0 l_a2 (List.length_replicate) h10 w)) ?_
  refine DL.new (ob := .cells (enc .u8 (List.replicate 32 0)) 23) (mk := fun b => ptr b 0) (i := 8) rfl (Wn.none rfl) rfl rfl rfl (f_alloc ty_z23 rfl) ?_
  intro b12 hb12
  refine DL.new (ob := .cells (enc .u8 (List.replicate 32 0)) 23) (mk := fun b => ptr b 0) (i := 9) rfl (Wn.none rfl) rfl rfl rfl (f_alloc ty_z23 rfl) ?_
  intro b13 hb13
  refine DL.put (H' := [(some b13, .cells (enc .u8 (List.replicate 32 0)) 23 (0, 0)), (some b12, .cells (enc .u8 t6) 23 (0, 0)), (some b4, .cells (enc .u8 (List.replicate 32 0)) 23 (0, 0)), (some b3, .cells (enc .u8 a2) 23 (0, 0)), (some b2, .cells (enc .u8 a1) 23 (0, 0)), (some b1, .cells (enc .u8 a0) 23 (0, 0))]) (i := 10) rfl (Wn.none rfl) rfl rfl (f_storeA (j := 1) ty_s23 rfl (enc_sz l_t6) (enc_sz (List.length_replicate)) (enc_oneCell _ _) rfl rfl rfl) (keep_new (j := 1) hz5 hb12 rfl) ?_
  refine DL.put (H' := [(some b13, .cells (enc .u8 t9) 23 (0, 0)), (some b12, .cells (enc .u8 t6) 23 (0, 0)), (some b4, .cells (enc .u8 (List.replicate 32 0)) 23 (0, 0)), (some b3, .cells (enc .u8 a2) 23 (0, 0)), (some b2, .cells (enc .u8 a1) 23 (0, 0)), (some b1, .cells (enc .u8 a0) 23 (0, 0))]) (i := 11) rfl (Wn.none rfl) rfl rfl (f_storeA (j := 0) ty_s23 rfl (enc_sz l_t9) (enc_sz (List.length_replicate)) (enc_oneCell _ _) rfl rfl rfl) (keep_new (j := 0) hz5 hb13 rfl) ?_
  refine DL.nil' hl5 ?_
  refine TT.seq (x := sub [1, 1, 1, 0] B4) (y := sub [1, 1, 1, 1] B4) ?_
  refine TT.regionD (id := 3) (ops := (opsOf (sub [1, 1, 1, 0] B4))) [0, 1, 2, 3, 4, 5, 6, 7, 8, 9, 10, 11, 12, 13, 14, 15, 16, 17, 18, 19, 20, 21, 22, 23, 24, 25, 26, 27, 28, 29, 30, 31, 32, 33, 34, 35, 36, 37, 38, 39, 40, 41, 42, 43, 44, 45, 46, 47, 48, 49, 50, 51, 52, 53, 54, 55, 56, 57, 58] [0, 0, 0, 7, 0, 31, 63, 127, 127, 127, 895, 127, 4095, 127, 127, 32767, 65535, 131071, 262143, 524287, 524287, 524287, 4194303, 524287, 524287, 524287, 524287, 125829119, 524287, 536870911, 1073741823, 2147483647, 4294967295, 8589934591, 8589934591, 34359738367, 8589934591, 137438953471, 8589934591, 8589934591, 8589934591, 1924145348607, 4398046511103, 8796093022207, 17592186044415, 35184372088831, 70368744177663, 70368744177663, 70368744177663, 562949953421311, 70368744177663, 70368744177663, 4503599627370495, 9007199254740991, 18014398509481983, 36028797018963967, 72057594037927935, 144115188075855871, 288230376151711743] [(.look, some 4), (.look, some 5), (.look, some 2), (.quiet, none), (.look, some 1), (.pure, none), (.pure, none), (.look, some 5), (.look, some 4), (.look, some 3), (.quiet, none), (.look, some 2), (.quiet, none), (.look, some 1), (.look, some 0), (.quiet, none), (.pure, none), (.pure, none), (.pure, none), (.look, some 1), (.look, some 3), (.look, some 2), (.quiet, none), (.look, some 5), (.look, some 4), (.look, some 3), (.look, some 2), (.quiet, none), (.look, some 2), (.quiet, none), (.pure, none), (.pure, none), (.pure, none), (.look, some 5), (.look, some 4), (.quiet, none), (.look, some 3), (.quiet, none), (.look, some 5), (.look, some 4), (.look, some 3), (.quiet, none), (.quiet, none), (.pure, none), (.pure, none), (.pure, none), (.look, some 5), (.look, some 4), (.look, some 3), (.quiet, none), (.look, some 1), (.look, some 3), (.quiet, none), (.pure, none), (.pure, none), (.pure, none), (.quiet, none), (.pure, none), (.pure, none)] mixed (by kernel_rfl) ?_
  intro w14 hl14 hj14 hz14
  refine DL.look (v := .agg (enc .u8 a1)) (x := 4) (b := b2) (i := 0) rfl (Wn.none rfl) rfl rfl rfl rfl rfl (List.mem_of_getElem? (i := 4) rfl) (b_loadA ty_a23 ty_s23 (enc_sz l_a1) rfl rfl) ?_
  refine DL.look (v := .agg (enc .u8 a0)) (x := 5) (b := b1) (i := 1) rfl (Wn.none rfl) rfl rfl rfl rfl rfl (List.mem_of_getElem? (i := 5) rfl) (b_loadA ty_a23 ty_s23 (enc_sz l_a0) rfl rfl) ?_
  refine DL.look (v := .agg (enc .u8 (List.replicate 32 0))) (x := 2) (b := b4) (i := 2) rfl (Wn.none rfl) rfl rfl rfl rfl rfl (List.mem_of_getElem? (i := 2) rfl) (b_loadA ty_a23 ty_s23 (enc_sz (List.length_replicate)) rfl rfl) ?_
  obtain ⟨t15, h16, h17⟩ := bind_some h11
  have l_t15 := scalar_MulAdd.len l_a1 l_a0 (List.length_replicate) h16
  refine DL.qu 21 (.agg (enc .u8 t15)) rfl (f_call rfl rfl (args_val (vs := [.agg (enc .u8 a1), .agg (enc .u8 a0), .agg (enc .u8 (List.replicate 32 0))]) rfl) (fun w => enter8 _ w) (fun w => scalar_MulAdd.val l_a1 l_a0 (List.length_replicate) h16 w)) ?_
  refine DL.look (v := .agg (enc .u8 t6)) (x := 1) (b := b12) (i := 4) rfl (Wn.none rfl) rfl rfl rfl rfl rfl (List.mem_of_getElem? (i := 1) rfl) (b_loadA ty_a23 ty_s23 (enc_sz l_t6) rfl rfl) ?_
  refine DL.pu 23 (.bool (t15 == t6)) rfl (p_eqAgg ty_g23 (fun w => run_eqRow (d := 9998) ty_ue23 ty_s5 ty_a5 ty_ue5 l_t15 l_t6 w) rfl rfl rfl) ?_
  refine DL.pu 24 (.bool (t15 == t6)) rfl (p_move rfl rfl) ?_
  obtain ⟨q18, h19, h20⟩ := bind_some h17
  refine DL.cut [(3, ptr b1 0), (4, ptr b2 0), (5, ptr b3 0), (7, ptr b4 0), (8, ptr b12 0), (35, .bool q18)] [18, 19, 20, 21, 22, 23, 24, 25, 26, 27, 28, 29, 30, 31, 32, 33, 34, 35, 36, 37, 38, 39, 40, 41, 42, 43, 44, 45, 46, 47, 48, 49, 50, 51, 52, 53, 54, 55, 56, 57, 58] ?_ (fun J21 => ?_)
  · refine DL.pu 36 (.bool q18) rfl (p_move rfl rfl) ?_
    obtain ⟨q34, h35, h36⟩ := bind_some h20
    refine DL.cut [(3, ptr b1 0), (4, ptr b2 0), (5, ptr b3 0), (8, ptr b12 0), (49, .bool q34)] [32, 33, 34, 35, 36, 37, 38, 39, 40, 41, 42, 43, 44, 45, 46, 47, 48, 49, 50, 51, 52, 53, 54, 55, 56, 57, 58] ?_ (fun J37 => ?_)
    · refine DL.pu 50 (.bool q34) rfl (p_move rfl rfl) ?_
      obtain ⟨q50, h51, h52⟩ := bind_some h36
      refine DL.cut [(3, ptr b1 0), (4, ptr b2 0), (5, ptr b3 0), (8, ptr b12 0), (62, .bool q50)] [45, 46, 47, 48, 49, 50, 51, 52, 53, 54, 55, 56, 57, 58] ?_ (fun J53 => ?_)
      · refine DL.pu 63 (.bool q50) rfl (p_move rfl rfl) ?_
        obtain ⟨q69, h70, h71⟩ := bind_some h52
        refine DL.cut [(72, .bool q69)] [55, 56, 57, 58] ?_ (fun J72 => ?_)
        · refine DL.pu 73 (.bool q69) rfl (p_move rfl rfl) ?_
          obtain ⟨q82, h83, h84⟩ := bind_some h71
          refine DL.cut [(75, .bool q82)] [58] ?_ (fun J85 => ?_)
          · refine DL.pu 6 (.bool q82) rfl (p_assign rfl rfl) ?_
            refine DL.nil' hl14 ?_
            obtain rfl := Option.some.inj h84
            exact ret1 Try.func4 rfl (ResV.tmp rfl) rfl
          · by_cases c86 : q69 = true
            · have h87 := ite_true c86 h83
              obtain ⟨t88, h89, h90⟩ := bind_some h87
              refine DL.quiet (v := .bool t88) rfl (Wn.yes c86 rfl rfl rfl rfl) rfl rfl rfl (f_call rfl rfl (args_val (vs := []) rfl) (fun w => enter10 _ w) (fun w => law03_known.val h89 w)) ?_
              refine DL.pu 75 (.bool t88) rfl (p_pick_t c86 rfl rfl rfl) ?_
              obtain rfl := Option.some.inj h90
              exact DL.weak J85 (Sub.cons rfl (Sub.nil _))
            · replace c86 := Bool.eq_false_iff.mpr c86
              have h91 := ite_false c86 h83
              refine DL.not (i := 56) rfl (Wn.no c86 rfl rfl rfl rfl) rfl rfl ?_
              refine DL.pu 75 (.bool false) rfl (p_pick_f c86 rfl rfl rfl) ?_
              obtain rfl := Option.some.inj h91
              exact DL.weak J85 (Sub.cons rfl (Sub.nil _))
        · by_cases c73 : q50 = true
          · have h74 := ite_true c73 h70
            refine DL.look (v := .agg (enc .u8 a0)) (x := 5) (b := b1) (i := 46) rfl (Wn.yes c73 rfl rfl rfl rfl) rfl rfl rfl rfl rfl (List.mem_of_getElem? (i := 5) rfl) (b_loadA ty_a23 ty_s23 (enc_sz l_a0) rfl rfl) ?_
            refine DL.look (v := .agg (enc .u8 a1)) (x := 4) (b := b2) (i := 47) rfl (Wn.yes c73 rfl rfl rfl rfl) rfl rfl rfl rfl rfl (List.mem_of_getElem? (i := 4) rfl) (b_loadA ty_a23 ty_s23 (enc_sz l_a1) rfl rfl) ?_
            refine DL.look (v := .agg (enc .u8 a2)) (x := 3) (b := b3) (i := 48) rfl (Wn.yes c73 rfl rfl rfl rfl) rfl rfl rfl rfl rfl (List.mem_of_getElem? (i := 3) rfl) (b_loadA ty_a23 ty_s23 (enc_sz l_a2) rfl rfl) ?_
            obtain ⟨t75, h76, h77⟩ := bind_some h74
            have l_t75 := scalar_MulAdd.len l_a0 l_a1 l_a2 h76
            refine DL.quiet (v := .agg (enc .u8 t75)) rfl (Wn.yes c73 rfl rfl rfl rfl) rfl rfl rfl (f_call rfl rfl (args_val (vs := [.agg (enc .u8 a0), .agg (enc .u8 a1), .agg (enc .u8 a2)]) rfl) (fun w => enter8 _ w) (fun w => scalar_MulAdd.val l_a0 l_a1 l_a2 h76 w)) ?_
            refine DL.look (v := .agg (enc .u8 t6)) (x := 1) (b := b12) (i := 50) rfl (Wn.yes c73 rfl rfl rfl rfl) rfl rfl rfl rfl rfl (List.mem_of_getElem? (i := 1) rfl) (b_loadA ty_a23 ty_s23 (enc_sz l_t6) rfl rfl) ?_
            refine DL.look (v := .agg (enc .u8 a2)) (x := 3) (b := b3) (i := 51) rfl (Wn.yes c73 rfl rfl rfl rfl) rfl rfl rfl rfl rfl (List.mem_of_getElem? (i := 3) rfl) (b_loadA ty_a23 ty_s23 (enc_sz l_a2) rfl rfl) ?_
            obtain ⟨t78, h79, h80⟩ := bind_some h77
            have l_t78 := scalar_Add.len l_t6 l_a2 h79
            refine DL.quiet (v := .agg (enc .u8 t78)) rfl (Wn.yes c73 rfl rfl rfl rfl) rfl rfl rfl (f_call rfl rfl (args_val (vs := [.agg (enc .u8 t6), .agg (enc .u8 a2)]) rfl) (fun w => enter11 _ w) (fun w => scalar_Add.val l_t6 l_a2 h79 w)) ?_
            refine DL.pure (v := .bool (t75 == t78)) rfl (Wn.yes c73 rfl rfl rfl rfl) rfl rfl rfl (p_eqAgg ty_g23 (fun w => run_eqRow (d := 9998) ty_ue23 ty_s5 ty_a5 ty_ue5 l_t75 l_t78 w) rfl rfl rfl) ?_
            refine DL.pu 72 (.bool (t75 == t78)) rfl (p_pick_t c73 rfl rfl rfl) ?_
            obtain rfl := Option.some.inj h80
            exact DL.weak J72 (Sub.cons rfl (Sub.nil _))
          · replace c73 := Bool.eq_false_iff.mpr c73
            have h81 := ite_false c73 h70
            refine DL.not (i := 46) rfl (Wn.no c73 rfl rfl rfl rfl) rfl rfl ?_
            refine DL.not (i := 47) rfl (Wn.no c73 rfl rfl rfl rfl) rfl rfl ?_
            refine DL.not (i := 48) rfl (Wn.no c73 rfl rfl rfl rfl) rfl rfl ?_
            refine DL.not (i := 49) rfl (Wn.no c73 rfl rfl rfl rfl) rfl rfl ?_
            refine DL.not (i := 50) rfl (Wn.no c73 rfl rfl rfl rfl) rfl rfl ?_
            refine DL.not (i := 51) rfl (Wn.no c73 rfl rfl rfl rfl) rfl rfl ?_
            refine DL.not (i := 52) rfl (Wn.no c73 rfl rfl rfl rfl) rfl rfl ?_
            refine DL.not (i := 53) rfl (Wn.no c73 rfl rfl rfl rfl) rfl rfl ?_
            refine DL.pu 72 (.bool false) rfl (p_pick_f c73 rfl rfl rfl) ?_
            obtain rfl := Option.some.inj h81
            exact DL.weak J72 (Sub.cons rfl (Sub.nil _))
      · by_cases c54 : q34 = true
        · have h55 := ite_true c54 h51
          refine DL.look (v := .agg (enc .u8 a0)) (x := 5) (b := b1) (i := 33) rfl (Wn.yes c54 rfl rfl rfl rfl) rfl rfl rfl rfl rfl (List.mem_of_getElem? (i := 5) rfl) (b_loadA ty_a23 ty_s23 (enc_sz l_a0) rfl rfl) ?_
          refine DL.look (v := .agg (enc .u8 a1)) (x := 4) (b := b2) (i := 34) rfl (Wn.yes c54 rfl rfl rfl rfl) rfl rfl rfl rfl rfl (List.mem_of_getElem? (i := 4) rfl) (b_loadA ty_a23 ty_s23 (enc_sz l_a1) rfl rfl) ?_
          obtain ⟨t56, h57, h58⟩ := bind_some h55
          have l_t56 := scalar_Add.len l_a0 l_a1 h57
          refine DL.quiet (v := .agg (enc .u8 t56)) rfl (Wn.yes c54 rfl rfl rfl rfl) rfl rfl rfl (f_call rfl rfl (args_val (vs := [.agg (enc .u8 a0), .agg (enc .u8 a1)]) rfl) (fun w => enter11 _ w) (fun w => scalar_Add.val l_a0 l_a1 h57 w)) ?_
          refine DL.look (v := .agg (enc .u8 a2)) (x := 3) (b := b3) (i := 36) rfl (Wn.yes c54 rfl rfl rfl rfl) rfl rfl rfl rfl rfl (List.mem_of_getElem? (i := 3) rfl) (b_loadA ty_a23 ty_s23 (enc_sz l_a2) rfl rfl) ?_
          obtain ⟨t59, h60, h61⟩ := bind_some h58
          have l_t59 := scalar_Add.len l_t56 l_a2 h60
          refine DL.quiet (v := .agg (enc .u8 t59)) rfl (Wn.yes c54 rfl rfl rfl rfl) rfl rfl rfl (f_call rfl rfl (args_val (vs := [.agg (enc .u8 t56), .agg (enc .u8 a2)]) rfl) (fun w => enter11 _ w) (fun w => scalar_Add.val l_t56 l_a2 h60 w)) ?_
          refine DL.look (v := .agg (enc .u8 a0)) (x := 5) (b := b1) (i := 38) rfl (Wn.yes c54 rfl rfl rfl rfl) rfl rfl rfl rfl rfl (List.mem_of_getElem? (i := 5) rfl) (b_loadA ty_a23 ty_s23 (enc_sz l_a0) rfl rfl) ?_
          refine DL.look (v := .agg (enc .u8 a1)) (x := 4) (b := b2) (i := 39) rfl (Wn.yes c54 rfl rfl rfl rfl) rfl rfl rfl rfl rfl (List.mem_of_getElem? (i := 4) rfl) (b_loadA ty_a23 ty_s23 (enc_sz l_a1) rfl rfl) ?_
          refine DL.look (v := .agg (enc .u8 a2)) (x := 3) (b := b3) (i := 40) rfl (Wn.yes c54 rfl rfl rfl rfl) rfl rfl rfl rfl rfl (List.mem_of_getElem? (i := 3) rfl) (b_loadA ty_a23 ty_s23 (enc_sz l_a2) rfl rfl) ?_
          obtain ⟨t62, h63, h64⟩ := bind_some h61
          have l_t62 := scalar_Add.len l_a1 l_a2 h63
          refine DL.quiet (v := .agg (enc .u8 t62)) rfl (Wn.yes c54 rfl rfl rfl rfl) rfl rfl rfl (f_call rfl rfl (args_val (vs := [.agg (enc .u8 a1), .agg (enc .u8 a2)]) rfl) (fun w => enter11 _ w) (fun w => scalar_Add.val l_a1 l_a2 h63 w)) ?_
          obtain ⟨t65, h66, h67⟩ := bind_some h64
          have l_t65 := scalar_Add.len l_a0 l_t62 h66
          refine DL.quiet (v := .agg (enc .u8 t65)) rfl (Wn.yes c54 rfl rfl rfl rfl) rfl rfl rfl (f_call rfl rfl (args_val (vs := [.agg (enc .u8 a0), .agg (enc .u8 t62)]) rfl) (fun w => enter11 _ w) (fun w => scalar_Add.val l_a0 l_t62 h66 w)) ?_
          refine DL.pure (v := .bool (t59 == t65)) rfl (Wn.yes c54 rfl rfl rfl rfl) rfl rfl rfl (p_eqAgg ty_g23 (fun w => run_eqRow (d := 9998) ty_ue23 ty_s5 ty_a5 ty_ue5 l_t59 l_t65 w) rfl rfl rfl) ?_
          refine DL.pu 62 (.bool (t59 == t65)) rfl (p_pick_t c54 rfl rfl rfl) ?_
          obtain rfl := Option.some.inj h67
          exact DL.weak J53 (Sub.cons rfl (Sub.cons rfl (Sub.cons rfl (Sub.cons rfl (Sub.cons rfl (Sub.nil _))))))
        · replace c54 := Bool.eq_false_iff.mpr c54
          have h68 := ite_false c54 h51
          refine DL.not (i := 33) rfl (Wn.no c54 rfl rfl rfl rfl) rfl rfl ?_
          refine DL.not (i := 34) rfl (Wn.no c54 rfl rfl rfl rfl) rfl rfl ?_
          refine DL.not (i := 35) rfl (Wn.no c54 rfl rfl rfl rfl) rfl rfl ?_
          refine DL.not (i := 36) rfl (Wn.no c54 rfl rfl rfl rfl) rfl rfl ?_
          refine DL.not (i := 37) rfl (Wn.no c54 rfl rfl rfl rfl) rfl rfl ?_
          refine DL.not (i := 38) rfl (Wn.no c54 rfl rfl rfl rfl) rfl rfl ?_
          refine DL.not (i := 39) rfl (Wn.no c54 rfl rfl rfl rfl) rfl rfl ?_
          refine DL.not (i := 40) rfl (Wn.no c54 rfl rfl rfl rfl) rfl rfl ?_
          refine DL.not (i := 41) rfl (Wn.no c54 rfl rfl rfl rfl) rfl rfl ?_
          refine DL.not (i := 42) rfl (Wn.no c54 rfl rfl rfl rfl) rfl rfl ?_
          refine DL.not (i := 43) rfl (Wn.no c54 rfl rfl rfl rfl) rfl rfl ?_
          refine DL.pu 62 (.bool false) rfl (p_pick_f c54 rfl rfl rfl) ?_
          obtain rfl := Option.some.inj h68
          exact DL.weak J53 (Sub.cons rfl (Sub.cons rfl (Sub.cons rfl (Sub.cons rfl (Sub.cons rfl (Sub.nil _))))))
    · by_cases c38 : q18 = true
      · have h39 := ite_true c38 h35
        refine DL.look (v := .agg (enc .u8 t6)) (x := 1) (b := b12) (i := 19) rfl (Wn.yes c38 rfl rfl rfl rfl) rfl rfl rfl rfl rfl (List.mem_of_getElem? (i := 1) rfl) (b_loadA ty_a23 ty_s23 (enc_sz l_t6) rfl rfl) ?_
        refine DL.look (v := .agg (enc .u8 a2)) (x := 3) (b := b3) (i := 20) rfl (Wn.yes c38 rfl rfl rfl rfl) rfl rfl rfl rfl rfl (List.mem_of_getElem? (i := 3) rfl) (b_loadA ty_a23 ty_s23 (enc_sz l_a2) rfl rfl) ?_
        refine DL.look (v := .agg (enc .u8 (List.replicate 32 0))) (x := 2) (b := b4) (i := 21) rfl (Wn.yes c38 rfl rfl rfl rfl) rfl rfl rfl rfl rfl (List.mem_of_getElem? (i := 2) rfl) (b_loadA ty_a23 ty_s23 (enc_sz (List.length_replicate)) rfl rfl) ?_
        obtain ⟨t40, h41, h42⟩ := bind_some h39
        have l_t40 := scalar_MulAdd.len l_t6 l_a2 (List.length_replicate) h41
        refine DL.quiet (v := .agg (enc .u8 t40)) rfl (Wn.yes c38 rfl rfl rfl rfl) rfl rfl rfl (f_call rfl rfl (args_val (vs := [.agg (enc .u8 t6), .agg (enc .u8 a2), .agg (enc .u8 (List.replicate 32 0))]) rfl) (fun w => enter8 _ w) (fun w => scalar_MulAdd.val l_t6 l_a2 (List.length_replicate) h41 w)) ?_
        refine DL.look (v := .agg (enc .u8 a0)) (x := 5) (b := b1) (i := 23) rfl (Wn.yes c38 rfl rfl rfl rfl) rfl rfl rfl rfl rfl (List.mem_of_getElem? (i := 5) rfl) (b_loadA ty_a23 ty_s23 (enc_sz l_a0) rfl rfl) ?_
        refine DL.look (v := .agg (enc .u8 a1)) (x := 4) (b := b2) (i := 24) rfl (Wn.yes c38 rfl rfl rfl rfl) rfl rfl rfl rfl rfl (List.mem_of_getElem? (i := 4) rfl) (b_loadA ty_a23 ty_s23 (enc_sz l_a1) rfl rfl) ?_
        refine DL.look (v := .agg (enc .u8 a2)) (x := 3) (b := b3) (i := 25) rfl (Wn.yes c38 rfl rfl rfl rfl) rfl rfl rfl rfl rfl (List.mem_of_getElem? (i := 3) rfl) (b_loadA ty_a23 ty_s23 (enc_sz l_a2) rfl rfl) ?_
        refine DL.look (v := .agg (enc .u8 (List.replicate 32 0))) (x := 2) (b := b4) (i := 26) rfl (Wn.yes c38 rfl rfl rfl rfl) rfl rfl rfl rfl rfl (List.mem_of_getElem? (i := 2) rfl) (b_loadA ty_a23 ty_s23 (enc_sz (List.length_replicate)) rfl rfl) ?_
        obtain ⟨t43, h44, h45⟩ := bind_some h42
        have l_t43 := scalar_MulAdd.len l_a1 l_a2 (List.length_replicate) h44
        refine DL.quiet (v := .agg (enc .u8 t43)) rfl (Wn.yes c38 rfl rfl rfl rfl) rfl rfl rfl (f_call rfl rfl (args_val (vs := [.agg (enc .u8 a1), .agg (enc .u8 a2), .agg (enc .u8 (List.replicate 32 0))]) rfl) (fun w => enter8 _ w) (fun w => scalar_MulAdd.val l_a1 l_a2 (List.length_replicate) h44 w)) ?_
        refine DL.look (v := .agg (enc .u8 (List.replicate 32 0))) (x := 2) (b := b4) (i := 28) rfl (Wn.yes c38 rfl rfl rfl rfl) rfl rfl rfl rfl rfl (List.mem_of_getElem? (i := 2) rfl) (b_loadA ty_a23 ty_s23 (enc_sz (List.length_replicate)) rfl rfl) ?_
        obtain ⟨t46, h47, h48⟩ := bind_some h45
        have l_t46 := scalar_MulAdd.len l_a0 l_t43 (List.length_replicate) h47
        refine DL.quiet (v := .agg (enc .u8 t46)) rfl (Wn.yes c38 rfl rfl rfl rfl) rfl rfl rfl (f_call rfl rfl (args_val (vs := [.agg (enc .u8 a0), .agg (enc .u8 t43), .agg (enc .u8 (List.replicate 32 0))]) rfl) (fun w => enter8 _ w) (fun w => scalar_MulAdd.val l_a0 l_t43 (List.length_replicate) h47 w)) ?_
        refine DL.pure (v := .bool (t40 == t46)) rfl (Wn.yes c38 rfl rfl rfl rfl) rfl rfl rfl (p_eqAgg ty_g23 (fun w => run_eqRow (d := 9998) ty_ue23 ty_s5 ty_a5 ty_ue5 l_t40 l_t46 w) rfl rfl rfl) ?_
        refine DL.pu 49 (.bool (t40 == t46)) rfl (p_pick_t c38 rfl rfl rfl) ?_
        obtain rfl := Option.some.inj h48
        exact DL.weak J37 (Sub.cons rfl (Sub.cons rfl (Sub.cons rfl (Sub.cons rfl (Sub.cons rfl (Sub.nil _))))))
      · replace c38 := Bool.eq_false_iff.mpr c38
        have h49 := ite_false c38 h35
        refine DL.not (i := 19) rfl (Wn.no c38 rfl rfl rfl rfl) rfl rfl ?_
        refine DL.not (i := 20) rfl (Wn.no c38 rfl rfl rfl rfl) rfl rfl ?_
        refine DL.not (i := 21) rfl (Wn.no c38 rfl rfl rfl rfl) rfl rfl ?_
        refine DL.not (i := 22) rfl (Wn.no c38 rfl rfl rfl rfl) rfl rfl ?_
        refine DL.not (i := 23) rfl (Wn.no c38 rfl rfl rfl rfl) rfl rfl ?_
        refine DL.not (i := 24) rfl (Wn.no c38 rfl rfl rfl rfl) rfl rfl ?_
        refine DL.not (i := 25) rfl (Wn.no c38 rfl rfl rfl rfl) rfl rfl ?_
        refine DL.not (i := 26) rfl (Wn.no c38 rfl rfl rfl rfl) rfl rfl ?_
        refine DL.not (i := 27) rfl (Wn.no c38 rfl rfl rfl rfl) rfl rfl ?_
        refine DL.not (i := 28) rfl (Wn.no c38 rfl rfl rfl rfl) rfl rfl ?_
        refine DL.not (i := 29) rfl (Wn.no c38 rfl rfl rfl rfl) rfl rfl ?_
        refine DL.not (i := 30) rfl (Wn.no c38 rfl rfl rfl rfl) rfl rfl ?_
        refine DL.pu 49 (.bool false) rfl (p_pick_f c38 rfl rfl rfl) ?_
        obtain rfl := Option.some.inj h49
        exact DL.weak J37 (Sub.cons rfl (Sub.cons rfl (Sub.cons rfl (Sub.cons rfl (Sub.cons rfl (Sub.nil _))))))
  · by_cases c22 : (t15 == t6) = true
    · have h23 := ite_true c22 h19
      refine DL.look (v := .agg (enc .u8 a0)) (x := 5) (b := b1) (i := 7) rfl (Wn.yes c22 rfl rfl rfl rfl) rfl rfl rfl rfl rfl (List.mem_of_getElem? (i := 5) rfl) (b_loadA ty_a23 ty_s23 (enc_sz l_a0) rfl rfl) ?_
      refine DL.look (v := .agg (enc .u8 a1)) (x := 4) (b := b2) (i := 8) rfl (Wn.yes c22 rfl rfl rfl rfl) rfl rfl rfl rfl rfl (List.mem_of_getElem? (i := 4) rfl) (b_loadA ty_a23 ty_s23 (enc_sz l_a1) rfl rfl) ?_
      refine DL.look (v := .agg (enc .u8 a2)) (x := 3) (b := b3) (i := 9) rfl (Wn.yes c22 rfl rfl rfl rfl) rfl rfl rfl rfl rfl (List.mem_of_getElem? (i := 3) rfl) (b_loadA ty_a23 ty_s23 (enc_sz l_a2) rfl rfl) ?_
      obtain ⟨t24, h25, h26⟩ := bind_some h23
      have l_t24 := scalar_Add.len l_a1 l_a2 h25
      refine DL.quiet (v := .agg (enc .u8 t24)) rfl (Wn.yes c22 rfl rfl rfl rfl) rfl rfl rfl (f_call rfl rfl (args_val (vs := [.agg (enc .u8 a1), .agg (enc .u8 a2)]) rfl) (fun w => enter11 _ w) (fun w => scalar_Add.val l_a1 l_a2 h25 w)) ?_
      refine DL.look (v := .agg (enc .u8 (List.replicate 32 0))) (x := 2) (b := b4) (i := 11) rfl (Wn.yes c22 rfl rfl rfl rfl) rfl rfl rfl rfl rfl (List.mem_of_getElem? (i := 2) rfl) (b_loadA ty_a23 ty_s23 (enc_sz (List.length_replicate)) rfl rfl) ?_
      obtain ⟨t27, h28, h29⟩ := bind_some h26
      have l_t27 := scalar_MulAdd.len l_a0 l_t24 (List.length_replicate) h28
      refine DL.quiet (v := .agg (enc .u8 t27)) rfl (Wn.yes c22 rfl rfl rfl rfl) rfl rfl rfl (f_call rfl rfl (args_val (vs := [.agg (enc .u8 a0), .agg (enc .u8 t24), .agg (enc .u8 (List.replicate 32 0))]) rfl) (fun w => enter8 _ w) (fun w => scalar_MulAdd.val l_a0 l_t24 (List.length_replicate) h28 w)) ?_
      refine DL.look (v := .agg (enc .u8 t6)) (x := 1) (b := b12) (i := 13) rfl (Wn.yes c22 rfl rfl rfl rfl) rfl rfl rfl rfl rfl (List.mem_of_getElem? (i := 1) rfl) (b_loadA ty_a23 ty_s23 (enc_sz l_t6) rfl rfl) ?_
      refine DL.look (v := .agg (enc .u8 t9)) (x := 0) (b := b13) (i := 14) rfl (Wn.yes c22 rfl rfl rfl rfl) rfl rfl rfl rfl rfl (List.mem_of_getElem? (i := 0) rfl) (b_loadA ty_a23 ty_s23 (enc_sz l_t9) rfl rfl) ?_
      obtain ⟨t30, h31, h32⟩ := bind_some h29
      have l_t30 := scalar_Add.len l_t6 l_t9 h31
      refine DL.quiet (v := .agg (enc .u8 t30)) rfl (Wn.yes c22 rfl rfl rfl rfl) rfl rfl rfl (f_call rfl rfl (args_val (vs := [.agg (enc .u8 t6), .agg (enc .u8 t9)]) rfl) (fun w => enter11 _ w) (fun w => scalar_Add.val l_t6 l_t9 h31 w)) ?_
      refine DL.pure (v := .bool (t27 == t30)) rfl (Wn.yes c22 rfl rfl rfl rfl) rfl rfl rfl (p_eqAgg ty_g23 (fun w => run_eqRow (d := 9998) ty_ue23 ty_s5 ty_a5 ty_ue5 l_t27 l_t30 w) rfl rfl rfl) ?_
      refine DL.pu 35 (.bool (t27 == t30)) rfl (p_pick_t c22 rfl rfl rfl) ?_
      obtain rfl := Option.some.inj h32
      exact DL.weak J21 (Sub.cons rfl (Sub.cons rfl (Sub.cons rfl (Sub.cons rfl (Sub.cons rfl (Sub.cons rfl (Sub.nil _)))))))
    · replace c22 := Bool.eq_false_iff.mpr c22
      have h33 := ite_false c22 h19
      refine DL.not (i := 7) rfl (Wn.no c22 rfl rfl rfl rfl) rfl rfl ?_
      refine DL.not (i := 8) rfl (Wn.no c22 rfl rfl rfl rfl) rfl rfl ?_
      refine DL.not (i := 9) rfl (Wn.no c22 rfl rfl rfl rfl) rfl rfl ?_
      refine DL.not (i := 10) rfl (Wn.no c22 rfl rfl rfl rfl) rfl rfl ?_
      refine DL.not (i := 11) rfl (Wn.no c22 rfl rfl rfl rfl) rfl rfl ?_
      refine DL.not (i := 12) rfl (Wn.no c22 rfl rfl rfl rfl) rfl rfl ?_
      refine DL.not (i := 13) rfl (Wn.no c22 rfl rfl rfl rfl) rfl rfl ?_
      refine DL.not (i := 14) rfl (Wn.no c22 rfl rfl rfl rfl) rfl rfl ?_
      refine DL.not (i := 15) rfl (Wn.no c22 rfl rfl rfl rfl) rfl rfl ?_
      refine DL.not (i := 16) rfl (Wn.no c22 rfl rfl rfl rfl) rfl rfl ?_
      refine DL.pu 35 (.bool false) rfl (p_pick_f c22 rfl rfl rfl) ?_
      obtain rfl := Option.some.inj h33
      exact DL.weak J21 (Sub.cons rfl (Sub.cons rfl (Sub.cons rfl (Sub.cons rfl (Sub.cons rfl (Sub.cons rfl (Sub.nil _)))))))
theorem law03_ScalarIs.val {a0 : List Int} {a1 : List Int} {a2 : List Int} {r : Bool} (l_a0 : a0.length = 32) (l_a1 : a1.length = 32) (l_a2 : a2.length = 32) (h : law03_ScalarIs.f a0 a1 a2 = some r) (w : World) : Calls Try.prog 4 #[.agg (enc .u8 a0), .agg (enc .u8 a1), .agg (enc .u8 a2)] w fun e w' => e = .returned (.bool r) ∧ Below w.heap.size w w' :=
  calls_value (law03_ScalarIs.ok l_a0 l_a1 l_a2 h w)

/-! ### escutcheon/escutcheonlaw03.ScalarWhole: function 5 -/
noncomputable def B5 : Code := bodyOf Try.f5
def law03_ScalarWhole.f (a0 : List Int) (a1 : Int) : Option (Bool) := (scalar_Order.f).bind fun t2 => (scalar_MulAdd.f t2 (a1 :: List.replicate 31 0) (List.replicate 32 0)).bind fun t6 => (if (!(t6 == (List.replicate 32 0))) = true then (some true) else ((scalar_May.f t2).bind fun t16 => some t16)).bind fun q9 => if q9 = true then (some false) else ((scalar_MulAdd.f a0 (1 :: List.replicate 31 0) (List.replicate 32 0)).bind fun t22 => (scalar_May.f a0).bind fun t27 => (if (t27 == (t22 == a0)) = true then ((scalar_MulAdd.f t2 (a1 :: List.replicate 31 0) t22).bind fun t36 => some (t36 == t22)) else (some false)).bind fun q30 => (if q30 = true then ((law03_known.f).bind fun t46 => some t46) else (some false)).bind fun q40 => some q40)
set_option maxRecDepth 20000 in
theorem law03_ScalarWhole.ok {a0 : List Int} {a1 : Int} {r : Bool} (l_a0 : a0.length = 32) (h : law03_ScalarWhole.f a0 a1 = some r) (w : World) : Calls Try.prog 5 #[.agg (enc .u8 a0), .int .u8 a1] w (Post (fun u => u = .bool r) w) := by
  unfold law03_ScalarWhole.f at h
  refine calls_of_TT (N := 41) (S := [(0, .agg (enc .u8 a0)), (1, .int .u8 a1)]) (c := B5) Try.func5 rfl rfl rfl (by simp) ?_
  show TT _ _ _ _ _ _ [.code (sub [] B5)] _ _
  refine TT.seq (x := sub [0] B5) (y := sub [1] B5) ?_
  refine TT.region (id := 0) (n := 2) (ops := (opsOf (sub [0] B5))) [(.alloc, none), (.pure, none)] rfl ?_
  show DL _ _ _ _ _ _ _ _ _ _ [0, 1] _ _
  refine DL.new (ob := .cells (enc .u8 a0) 23) (mk := fun b => ptr b 0) (i := 0) rfl (Wn.none rfl) rfl rfl rfl (f_box (v := .agg (enc .u8 a0)) rfl rfl) ?_
  intro b1 hb1
  refine DL.pu 4 (.bool false) rfl (p_assign rfl rfl) ?_
  refine DL.nil ?_
  refine TT.seq (x := sub [1, 0] B5) (y := sub [1, 1] B5) ?_
  refine TT.region (id := 1) (n := 3) (ops := (opsOf (sub [1, 0] B5))) [(.quiet, none), (.alloc, none), (.store, none)] rfl ?_
  show DL _ _ _ _ _ _ _ _ _ _ [0, 1, 2] _ _
  obtain ⟨t2, h3, h4⟩ := bind_some h
  have l_t2 := scalar_Order.len h3
  refine DL.qu 7 (.agg (enc .u8 t2)) rfl (f_call rfl rfl (args_val (vs := []) rfl) (fun w => enter12 _ w) (fun w => scalar_Order.val h3 w)) ?_
  refine DL.new (ob := .cells (enc .u8 (List.replicate 32 0)) 23) (mk := fun b => ptr b 0) (i := 1) rfl (Wn.none rfl) rfl rfl rfl (f_alloc ty_z23 rfl) ?_
  intro b5 hb5
  refine DL.put (H' := [(some b5, .cells (enc .u8 t2) 23 (0, 0)), (some b1, .cells (enc .u8 a0) 23 (0, 0))]) (i := 2) rfl (Wn.none rfl) rfl rfl (f_storeA (j := 0) ty_s23 rfl (enc_sz l_t2) (enc_sz (List.length_replicate)) (enc_oneCell _ _) rfl rfl rfl) (keep_none rfl) ?_
  refine DL.nil ?_
  refine TT.seq (x := sub [1, 1, 0] B5) (y := sub [1, 1, 1] B5) ?_
  refine TT.seq (x := sub [1, 1, 0, 0] B5) (y := sub [1, 1, 0, 1] B5) ?_
  refine TT.region (id := 2) (n := 11) (ops := (opsOf (sub [1, 1, 0, 0] B5))) [(.quiet, none), (.pure, none), (.pure, none), (.pure, none), (.quiet, none), (.pure, none), (.pure, none), (.pure, none), (.quiet, none), (.quiet, none), (.pure, none)] rfl ?_
  show DL _ _ _ _ _ _ _ _ _ _ [0, 1, 2, 3, 4, 5, 6, 7, 8, 9, 10] _ _
  refine DL.qu 8 (.agg (enc .u8 t2)) rfl (f_loadA (j := 0) ty_a23 ty_s23 rfl (enc_sz l_t2) rfl rfl) ?_
  refine DL.pu 9 (.int .u8 a1) rfl (p_move rfl rfl) ?_
  refine DL.pu 10 (.agg (enc .u8 (a1 :: List.replicate 31 0))) rfl (p_build (vs := [(0, .int .u8 a1)]) (fun w => by kernel_rfl) rfl rfl) ?_
  refine DL.pu 11 (.agg (enc .u8 (List.replicate 32 0))) rfl (p_build (vs := []) (fun w => by kernel_rfl) rfl rfl) ?_
  obtain ⟨t6, h7, h8⟩ := bind_some h4
  have l_t6 := scalar_MulAdd.len l_t2 (by simp) (by simp) h7
  refine DL.qu 12 (.agg (enc .u8 t6)) rfl (f_call rfl rfl (args_val (vs := [.agg (enc .u8 t2), .agg (enc .u8 (a1 :: List.replicate 31 0)), .agg (enc .u8 (List.replicate 32 0))]) rfl) (fun w => enter8 _ w) (fun w => scalar_MulAdd.val l_t2 (by simp) (by simp) h7 w)) ?_
  refine DL.pu 13 (.agg (enc .u8 (List.replicate 32 0))) rfl (p_build (vs := []) (fun w => by kernel_rfl) rfl rfl) ?_
  refine DL.pu 14 (.bool (!(t6 == (List.replicate 32 0)))) rfl (p_neAgg ty_g23 (fun w => run_eqRow (d := 9998) ty_ue23 ty_s5 ty_a5 ty_ue5 l_t6 (by simp) w) rfl rfl rfl) ?_
  refine DL.pu 15 (.bool (!(t6 == (List.replicate 32 0)))) rfl (p_move rfl rfl) ?_
  obtain ⟨q9, h10, h11⟩ := bind_some h8
  refine DL.cut [(1, .int .u8 a1), (2, ptr b1 0), (5, ptr b5 0), (18, .bool q9)] [] ?_ (fun J12 => ?_)
  · refine DL.nil ?_
    by_cases c19 : q9 = true
    · have h20 := ite_true c19 h11
      refine TT.cond_true (x := sub [1, 1, 0, 1, 0] B5) (y := sub [1, 1, 0, 1, 1] B5) rfl c19 ?_
      refine TT.seq (x := sub [1, 1, 0, 1, 0, 0] B5) (y := sub [1, 1, 0, 1, 0, 1] B5) ?_
      refine TT.region (id := 3) (n := 1) (ops := (opsOf (sub [1, 1, 0, 1, 0, 0] B5))) [(.pure, none)] rfl ?_
      show DL _ _ _ _ _ _ _ _ _ _ [0] _ _
      refine DL.pu 4 (.bool false) rfl (p_assign rfl rfl) ?_
      refine DL.nil ?_
      obtain rfl := Option.some.inj h20
      exact ret1 Try.func5 rfl (ResV.tmp rfl) rfl
    · replace c19 := Bool.eq_false_iff.mpr c19
      have h21 := ite_false c19 h11
      refine TT.cond_false (x := sub [1, 1, 0, 1, 0] B5) (y := sub [1, 1, 0, 1, 1] B5) rfl c19 ?_
      refine TT.skip ?_
      refine TT.seq (x := sub [1, 1, 1, 0] B5) (y := sub [1, 1, 1, 1] B5) ?_
      refine TT.region (id := 4) (n := 6) (ops := (opsOf (sub [1, 1, 1, 0] B5))) [(.quiet, none), (.pure, none), (.pure, none), (.quiet, none), (.alloc, none), (.store, none)] rfl ?_
      show DL _ _ _ _ _ _ _ _ _ _ [0, 1, 2, 3, 4, 5] _ _
      refine DL.qu 19 (.agg (enc .u8 a0)) rfl (f_loadA (j := 1) ty_a23 ty_s23 rfl (enc_sz l_a0) rfl rfl) ?_
      refine DL.pu 20 (.agg (enc .u8 (1 :: List.replicate 31 0))) rfl (p_build (vs := [(0, .int .u8 1)]) (fun w => by kernel_rfl) rfl rfl) ?_
      refine DL.pu 21 (.agg (enc .u8 (List.replicate 32 0))) rfl (p_build (vs := []) (fun w => by kernel_rfl) rfl rfl) ?_
      obtain ⟨t22, h23, h24⟩ := bind_some h21
      have l_t22 := scalar_MulAdd.len l_a0 (by simp) (by simp) h23
      refine DL.qu 22 (.agg (enc .u8 t22)) rfl (f_call rfl rfl (args_val (vs := [.agg (enc .u8 a0), .agg (enc .u8 (1 :: List.replicate 31 0)), .agg (enc .u8 (List.replicate 32 0))]) rfl) (fun w => enter8 _ w) (fun w => scalar_MulAdd.val l_a0 (by simp) (by simp) h23 w)) ?_
      refine DL.new (ob := .cells (enc .u8 (List.replicate 32 0)) 23) (mk := fun b => ptr b 0) (i := 4) rfl (Wn.none rfl) rfl rfl rfl (f_alloc ty_z23 rfl) ?_
      intro b25 hb25
      refine DL.put (H' := [(some b25, .cells (enc .u8 t22) 23 (0, 0)), (some b5, .cells (enc .u8 t2) 23 (0, 0)), (some b1, .cells (enc .u8 a0) 23 (0, 0))]) (i := 5) rfl (Wn.none rfl) rfl rfl (f_storeA (j := 0) ty_s23 rfl (enc_sz l_t22) (enc_sz (List.length_replicate)) (enc_oneCell _ _) rfl rfl rfl) (keep_none rfl) ?_
      refine DL.nil ?_
      refine TT.seq (x := sub [1, 1, 1, 1, 0] B5) (y := sub [1, 1, 1, 1, 1] B5) ?_
      refine TT.regionD (id := 5) (ops := (opsOf (sub [1, 1, 1, 1, 0] B5))) [0, 1, 2, 3, 4, 5, 6, 7, 8, 9, 10, 11, 12, 13, 14, 15, 16, 17, 18] [0, 1, 0, 0, 12, 31, 63, 127, 127, 383, 127, 2047, 127, 8191, 16383, 32767, 65535, 131071, 262143] [(.look, some 2), (.quiet, none), (.look, some 0), (.look, some 2), (.pure, none), (.pure, none), (.pure, none), (.look, some 1), (.pure, none), (.pure, none), (.look, some 0), (.quiet, none), (.look, some 0), (.pure, none), (.pure, none), (.pure, none), (.quiet, none), (.pure, none), (.pure, none)] mixed (by kernel_rfl) ?_
      intro w26 hl26 hj26 hz26
      refine DL.look (v := .agg (enc .u8 a0)) (x := 2) (b := b1) (i := 0) rfl (Wn.none rfl) rfl rfl rfl rfl rfl (List.mem_of_getElem? (i := 2) rfl) (b_loadA ty_a23 ty_s23 (enc_sz l_a0) rfl rfl) ?_
      obtain ⟨t27, h28, h29⟩ := bind_some h24
      refine DL.qu 24 (.bool t27) rfl (f_call rfl rfl (args_val (vs := [.agg (enc .u8 a0)]) rfl) (fun w => enter13 _ w) (fun w => scalar_May.val l_a0 h28 w)) ?_
      refine DL.look (v := .agg (enc .u8 t22)) (x := 0) (b := b25) (i := 2) rfl (Wn.none rfl) rfl rfl rfl rfl rfl (List.mem_of_getElem? (i := 0) rfl) (b_loadA ty_a23 ty_s23 (enc_sz l_t22) rfl rfl) ?_
      refine DL.look (v := .agg (enc .u8 a0)) (x := 2) (b := b1) (i := 3) rfl (Wn.none rfl) rfl rfl rfl rfl rfl (List.mem_of_getElem? (i := 2) rfl) (b_loadA ty_a23 ty_s23 (enc_sz l_a0) rfl rfl) ?_
      refine DL.pu 27 (.bool (t22 == a0)) rfl (p_eqAgg ty_g23 (fun w => run_eqRow (d := 9998) ty_ue23 ty_s5 ty_a5 ty_ue5 l_t22 l_a0 w) rfl rfl rfl) ?_
      refine DL.pu 28 (.bool (t27 == (t22 == a0))) rfl (p_eqb ty_u4 rfl rfl rfl) ?_
      refine DL.pu 29 (.bool (t27 == (t22 == a0))) rfl (p_move rfl rfl) ?_
      obtain ⟨q30, h31, h32⟩ := bind_some h29
      refine DL.cut [(37, .bool q30)] [15, 16, 17, 18] ?_ (fun J33 => ?_)
      · refine DL.pu 38 (.bool q30) rfl (p_move rfl rfl) ?_
        obtain ⟨q40, h41, h42⟩ := bind_some h32
        refine DL.cut [(40, .bool q40)] [18] ?_ (fun J43 => ?_)
        · refine DL.pu 4 (.bool q40) rfl (p_assign rfl rfl) ?_
          refine DL.nil' hl26 ?_
          obtain rfl := Option.some.inj h42
          exact ret1 Try.func5 rfl (ResV.tmp rfl) rfl
        · by_cases c44 : q30 = true
          · have h45 := ite_true c44 h41
            obtain ⟨t46, h47, h48⟩ := bind_some h45
            refine DL.quiet (v := .bool t46) rfl (Wn.yes c44 rfl rfl rfl rfl) rfl rfl rfl (f_call rfl rfl (args_val (vs := []) rfl) (fun w => enter10 _ w) (fun w => law03_known.val h47 w)) ?_
            refine DL.pu 40 (.bool t46) rfl (p_pick_t c44 rfl rfl rfl) ?_
            obtain rfl := Option.some.inj h48
            exact DL.weak J43 (Sub.cons rfl (Sub.nil _))
          · replace c44 := Bool.eq_false_iff.mpr c44
            have h49 := ite_false c44 h41
            refine DL.not (i := 16) rfl (Wn.no c44 rfl rfl rfl rfl) rfl rfl ?_
            refine DL.pu 40 (.bool false) rfl (p_pick_f c44 rfl rfl rfl) ?_
            obtain rfl := Option.some.inj h49
            exact DL.weak J43 (Sub.cons rfl (Sub.nil _))
      · by_cases c34 : (t27 == (t22 == a0)) = true
        · have h35 := ite_true c34 h31
          refine DL.look (v := .agg (enc .u8 t2)) (x := 1) (b := b5) (i := 7) rfl (Wn.yes c34 rfl rfl rfl rfl) rfl rfl rfl rfl rfl (List.mem_of_getElem? (i := 1) rfl) (b_loadA ty_a23 ty_s23 (enc_sz l_t2) rfl rfl) ?_
          refine DL.pure (v := .int .u8 a1) rfl (Wn.yes c34 rfl rfl rfl rfl) rfl rfl rfl (p_move rfl rfl) ?_
          refine DL.pure (v := .agg (enc .u8 (a1 :: List.replicate 31 0))) rfl (Wn.yes c34 rfl rfl rfl rfl) rfl rfl rfl (p_build (vs := [(0, .int .u8 a1)]) (fun w => by kernel_rfl) rfl rfl) ?_
          refine DL.look (v := .agg (enc .u8 t22)) (x := 0) (b := b25) (i := 10) rfl (Wn.yes c34 rfl rfl rfl rfl) rfl rfl rfl rfl rfl (List.mem_of_getElem? (i := 0) rfl) (b_loadA ty_a23 ty_s23 (enc_sz l_t22) rfl rfl) ?_
          obtain ⟨t36, h37, h38⟩ := bind_some h35
          have l_t36 := scalar_MulAdd.len l_t2 (by simp) l_t22 h37
          refine DL.quiet (v := .agg (enc .u8 t36)) rfl (Wn.yes c34 rfl rfl rfl rfl) rfl rfl rfl (f_call rfl rfl (args_val (vs := [.agg (enc .u8 t2), .agg (enc .u8 (a1 :: List.replicate 31 0)), .agg (enc .u8 t22)]) rfl) (fun w => enter8 _ w) (fun w => scalar_MulAdd.val l_t2 (by simp) l_t22 h37 w)) ?_
          refine DL.look (v := .agg (enc .u8 t22)) (x := 0) (b := b25) (i := 12) rfl (Wn.yes c34 rfl rfl rfl rfl) rfl rfl rfl rfl rfl (List.mem_of_getElem? (i := 0) rfl) (b_loadA ty_a23 ty_s23 (enc_sz l_t22) rfl rfl) ?_
          refine DL.pure (v := .bool (t36 == t22)) rfl (Wn.yes c34 rfl rfl rfl rfl) rfl rfl rfl (p_eqAgg ty_g23 (fun w => run_eqRow (d := 9998) ty_ue23 ty_s5 ty_a5 ty_ue5 l_t36 l_t22 w) rfl rfl rfl) ?_
          refine DL.pu 37 (.bool (t36 == t22)) rfl (p_pick_t c34 rfl rfl rfl) ?_
          obtain rfl := Option.some.inj h38
          exact DL.weak J33 (Sub.cons rfl (Sub.nil _))
        · replace c34 := Bool.eq_false_iff.mpr c34
          have h39 := ite_false c34 h31
          refine DL.not (i := 7) rfl (Wn.no c34 rfl rfl rfl rfl) rfl rfl ?_
          refine DL.not (i := 8) rfl (Wn.no c34 rfl rfl rfl rfl) rfl rfl ?_
          refine DL.not (i := 9) rfl (Wn.no c34 rfl rfl rfl rfl) rfl rfl ?_
          refine DL.not (i := 10) rfl (Wn.no c34 rfl rfl rfl rfl) rfl rfl ?_
          refine DL.not (i := 11) rfl (Wn.no c34 rfl rfl rfl rfl) rfl rfl ?_
          refine DL.not (i := 12) rfl (Wn.no c34 rfl rfl rfl rfl) rfl rfl ?_
          refine DL.not (i := 13) rfl (Wn.no c34 rfl rfl rfl rfl) rfl rfl ?_
          refine DL.pu 37 (.bool false) rfl (p_pick_f c34 rfl rfl rfl) ?_
          obtain rfl := Option.some.inj h39
          exact DL.weak J33 (Sub.cons rfl (Sub.nil _))
  · by_cases c13 : (!(t6 == (List.replicate 32 0))) = true
    · have h14 := ite_true c13 h10
      refine DL.not (i := 8) rfl (Wn.yes c13 rfl rfl rfl rfl) rfl rfl ?_
      refine DL.not (i := 9) rfl (Wn.yes c13 rfl rfl rfl rfl) rfl rfl ?_
      refine DL.pu 18 (.bool true) rfl (p_pick_t c13 rfl rfl rfl) ?_
      obtain rfl := Option.some.inj h14
      exact DL.weak J12 (Sub.cons rfl (Sub.cons rfl (Sub.cons rfl (Sub.cons rfl (Sub.nil _)))))
    · replace c13 := Bool.eq_false_iff.mpr c13
      have h15 := ite_false c13 h10
      refine DL.quiet (v := .agg (enc .u8 t2)) rfl (Wn.no c13 rfl rfl rfl rfl) rfl rfl rfl (f_loadA (j := 0) ty_a23 ty_s23 rfl (enc_sz l_t2) rfl rfl) ?_
      obtain ⟨t16, h17, h18⟩ := bind_some h15
      refine DL.quiet (v := .bool t16) rfl (Wn.no c13 rfl rfl rfl rfl) rfl rfl rfl (f_call rfl rfl (args_val (vs := [.agg (enc .u8 t2)]) rfl) (fun w => enter13 _ w) (fun w => scalar_May.val l_t2 h17 w)) ?_
      refine DL.pu 18 (.bool t16) rfl (p_pick_f c13 rfl rfl rfl) ?_
      obtain rfl := Option.some.inj h18
      exact DL.weak J12 (Sub.cons rfl (Sub.cons rfl (Sub.cons rfl (Sub.cons rfl (Sub.nil _)))))
theorem law03_ScalarWhole.val {a0 : List Int} {a1 : Int} {r : Bool} (l_a0 : a0.length = 32) (h : law03_ScalarWhole.f a0 a1 = some r) (w : World) : Calls Try.prog 5 #[.agg (enc .u8 a0), .int .u8 a1] w fun e w' => e = .returned (.bool r) ∧ Below w.heap.size w w' :=
  calls_value (law03_ScalarWhole.ok l_a0 h w)

/-! ### escutcheon/escutcheonref03.high: function 32 -/
noncomputable def B32 : Code := bodyOf Try.f32
def ref03_high.L1 (a0 : List Int) (x4_2 : Int) : Nat → Int → List Int → Option (List Int)
  | 0, _, _ => none
  | k + 1, x5_151, y_152 => if (decide (0 ≤ x5_151)) = true then (req (0 ≤ x4_2) (req (x4_2 < (a0.length : Int)) (req (0 ≤ (IntKind.u64.wrap x5_151)) (nm (ishr .u8 (a0.getD x4_2.toNat 0) (IntKind.u64.wrap x5_151)) fun t231 => req (y_152.length + [Int.tmod t231 2].length ≤ 1099511627776) (ref03_high.L1 a0 x4_2 k (IntKind.i64.wrap (x5_151 - 1)) (y_152 ++ [Int.tmod t231 2])))))) else (some y_152)
set_option maxRecDepth 20000 in
theorem ref03_high.L1_ok (a0 : List Int) (a0_v : Value) (x4_2 : Int) {R : Ending → World → Prop} {w0 : World} {I : Nat → Option Obj} {K : List Item} (hr_a0 : IntRow (I) .u8 a0_v a0) :
    ∀ (k : Nat) (x5_151 : Int) (y_152 : List Int) (y_152_v : Value) (y_152_c : Array Value) (r0 : List Int) (ho_y_152 : IntOwn .u8 y_152_v y_152_c y_152) (h : ref03_high.L1 a0 x4_2 k x5_151 y_152 = some r0) (hk : ∀ (z_o1_221_v : Value), ∀ (z_o1_221_c : Array Value), IntOwn .u8 z_o1_221_v z_o1_221_c r0 → TT Try.prog 32 R 29 w0 I K [(0, a0_v), (3, z_o1_221_v), (4, .int .i64 x4_2)] [(Value.ownBlock z_o1_221_v, .cells z_o1_221_c 5 (0, 0))]),
      TT Try.prog 32 R 29 w0 I (.code (sub [1, 1, 0, 1, 0, 0, 1, 0, 0, 1, 0, 0] B32) :: .inLoop (sub [1, 1, 0, 1, 0, 0, 1, 0, 0, 1, 0, 0] B32) :: .inBlock 2 :: K) [(0, a0_v), (3, y_152_v), (4, .int .i64 x4_2), (5, .int .i64 x5_151)] [(Value.ownBlock y_152_v, .cells y_152_c 5 (0, 0))] := by
  intro k
  induction k with
  | zero => intro x5_151 y_152 y_152_v y_152_c r0 ho_y_152 h; simp [ref03_high.L1] at h
  | succ k ih =>
    intro x5_151 y_152 y_152_v y_152_c r0 ho_y_152 h hk
    unfold ref03_high.L1 at h
    refine TT.seq (x := sub [1, 1, 0, 1, 0, 0, 1, 0, 0, 1, 0, 0, 0] B32) (y := sub [1, 1, 0, 1, 0, 0, 1, 0, 0, 1, 0, 0, 1] B32) ?_
    refine TT.seq (x := sub [1, 1, 0, 1, 0, 0, 1, 0, 0, 1, 0, 0, 0, 0] B32) (y := sub [1, 1, 0, 1, 0, 0, 1, 0, 0, 1, 0, 0, 0, 1] B32) ?_
    refine TT.region (id := 6) (n := 2) (ops := (opsOf (sub [1, 1, 0, 1, 0, 0, 1, 0, 0, 1, 0, 0, 0, 0] B32))) [(.pure, none), (.pure, none)] rfl ?_
    show DL _ _ _ _ _ _ _ _ _ _ [0, 1] _ _
    refine DL.pu 13 (.int .i64 x5_151) rfl (p_move rfl rfl) ?_
    refine DL.pu 14 (.bool (decide (0 ≤ x5_151))) rfl (p_geq rfl rfl rfl) ?_
    refine DL.nil ?_
    by_cases c222 : (decide (0 ≤ x5_151)) = true
    · have h223 := ite_true c222 h
      refine TT.cond_true (x := sub [1, 1, 0, 1, 0, 0, 1, 0, 0, 1, 0, 0, 0, 1, 0] B32) (y := sub [1, 1, 0, 1, 0, 0, 1, 0, 0, 1, 0, 0, 0, 1, 1] B32) rfl c222 ?_
      refine TT.skip ?_
      refine TT.seq (x := sub [1, 1, 0, 1, 0, 0, 1, 0, 0, 1, 0, 0, 1, 0] B32) (y := sub [1, 1, 0, 1, 0, 0, 1, 0, 0, 1, 0, 0, 1, 1] B32) ?_
      refine TT.block (c := sub [1, 1, 0, 1, 0, 0, 1, 0, 0, 1, 0, 0, 1, 0, 0] B32) ?_
      refine TT.region (id := 8) (n := 12) (ops := (opsOf (sub [1, 1, 0, 1, 0, 0, 1, 0, 0, 1, 0, 0, 1, 0, 0] B32))) [(.pure, none), (.pure, none), (.pure, none), (.pure, none), (.pure, none), (.pure, none), (.pure, none), (.pure, none), (.pure, none), (.alloc, none), (.act, none), (.pure, none)] rfl ?_
      show DL _ _ _ _ _ _ _ _ _ _ [0, 1, 2, 3, 4, 5, 6, 7, 8, 9, 10, 11] _ _
      refine DL.pu 17 (y_152_v) rfl (p_move rfl rfl) ?_
      refine DL.pu 18 (a0_v) rfl (p_move rfl rfl) ?_
      refine DL.pu 19 (.int .i64 x4_2) rfl (p_move rfl rfl) ?_
      obtain ⟨g224, h225⟩ := req_some h223
      obtain ⟨g226, h227⟩ := req_some h225
      refine DL.pu 20 (elp a0_v x4_2.toNat) rfl (p_slIx1 ty_u37 ty_s5 (RowV.some hr_a0 g224 g226) g224 g226 rfl rfl rfl) ?_
      refine DL.imm (v := .int .u8 (a0.getD x4_2.toNat 0)) rfl (Wn.none rfl) rfl rfl rfl (i_loadEl hr_a0 (encl_get .u8 (lt_len g224 g226)) ty_a5 rfl rfl) ?_
      refine DL.pu 22 (.int .i64 x5_151) rfl (p_move rfl rfl) ?_
      refine DL.pu 23 (.int .u64 (IntKind.u64.wrap x5_151)) rfl (p_conv ty_u3 ty_u56 ⟨_, rfl⟩ rfl rfl) ?_
      obtain ⟨g229, h230⟩ := req_some h227
      obtain ⟨t231, e232, h233⟩ := nm_some h230
      refine DL.pu 24 (.int .u8 t231) rfl (by rw [e232]; exact p_shr g229 rfl rfl rfl) ?_
      refine DL.pu 25 (.int .u8 (Int.tmod t231 2)) rfl (p_rem (by decide) rfl rfl rfl) ?_
      refine DL.newSl (zs := [Int.tmod t231 2]) (n := 1) rfl (by decide) (i := 9) rfl (Wn.none rfl) rfl rfl rfl (f_buildSl (n := 1) (zs := [Int.tmod t231 2]) (vs := [(0, .int .u8 (Int.tmod t231 2))]) elem37 rfl rfl (by kernel_rfl) rfl (args_val2 rfl)) ?_
      intro s235_v s235_c ho_s235
      obtain ⟨g236, h237⟩ := req_some h233
      refine DL.own (zs := y_152 ++ [Int.tmod t231 2]) (H' := fun s238_v s238_c => [(Value.ownBlock s235_v, .cells s235_c 5 (0, 0)), (Value.ownBlock s238_v, .cells s238_c 5 (0, 0))]) (len_app g236) (i := 10) rfl (Wn.none rfl) rfl rfl rfl (f_appendInt (j := 1) elem37 rfl ho_y_152 g236 (by decide) (fun w hc => IntOwn.src (i := 0) ho_s235 hc rfl) rfl rfl rfl) (fun _ => rfl) ?_
      intro s238_v s238_c ho_s238
      refine DL.pu 3 (s238_v) rfl (p_assign rfl rfl) ?_
      refine DL.nil ?_
      refine TT.inBlock ?_
      refine TT.region (id := 7) (n := 3) (ops := (opsOf (sub [1, 1, 0, 1, 0, 0, 1, 0, 0, 1, 0, 0, 1, 1] B32))) [(.pure, none), (.pure, none), (.pure, none)] rfl ?_
      show DL _ _ _ _ _ _ _ _ _ _ [0, 1, 2] _ _
      refine DL.pu 15 (.int .i64 x5_151) rfl (p_move rfl rfl) ?_
      refine DL.pu 16 (.int .i64 (IntKind.i64.wrap (x5_151 - 1))) rfl (p_sub rfl rfl rfl) ?_
      refine DL.pu 5 (.int .i64 (IntKind.i64.wrap (x5_151 - 1))) rfl (p_assign rfl rfl) ?_
      refine DL.nil ?_
      refine TT.inLoop ?_
      exact TT.fewer (TT.weak (ih (IntKind.i64.wrap (x5_151 - 1)) (y_152 ++ [Int.tmod t231 2]) s238_v s238_c r0 ho_s238 h237 hk) (Sub.cons rfl (Sub.cons rfl (Sub.cons rfl (Sub.cons rfl (Sub.nil _)))))) (by simp)
    · replace c222 := Bool.eq_false_iff.mpr c222
      have h239 := ite_false c222 h
      refine TT.cond_false (x := sub [1, 1, 0, 1, 0, 0, 1, 0, 0, 1, 0, 0, 0, 1, 0] B32) (y := sub [1, 1, 0, 1, 0, 0, 1, 0, 0, 1, 0, 0, 0, 1, 1] B32) rfl c222 ?_
      refine TT.exit rfl ?_
      obtain rfl := Option.some.inj h239
      exact TT.weak (hk y_152_v y_152_c ho_y_152) (Sub.cons rfl (Sub.cons rfl (Sub.cons rfl (Sub.nil _))))

def ref03_high.L0 (a0 : List Int) : Nat → Int → List Int → Option (List Int)
  | 0, _, _ => none
  | k + 1, x4_2, y_3 => if (decide (0 ≤ x4_2)) = true then ((ref03_high.L1 a0 x4_2 9 7 y_3).bind fun z_o1_221 => ref03_high.L0 a0 k (IntKind.i64.wrap (x4_2 - 1)) z_o1_221) else (some y_3)
set_option maxRecDepth 20000 in
theorem ref03_high.L0_ok (a0 : List Int) (a0_v : Value) {R : Ending → World → Prop} {w0 : World} {I : Nat → Option Obj} {K : List Item} (hr_a0 : IntRow (I) .u8 a0_v a0) :
    ∀ (k : Nat) (x4_2 : Int) (y_3 : List Int) (y_3_v : Value) (y_3_c : Array Value) (r0 : List Int) (ho_y_3 : IntOwn .u8 y_3_v y_3_c y_3) (h : ref03_high.L0 a0 k x4_2 y_3 = some r0) (hk : ∀ (z_o1_148_v : Value), ∀ (z_o1_148_c : Array Value), IntOwn .u8 z_o1_148_v z_o1_148_c r0 → TT Try.prog 32 R 29 w0 I K [(3, z_o1_148_v)] [(Value.ownBlock z_o1_148_v, .cells z_o1_148_c 5 (0, 0))]),
      TT Try.prog 32 R 29 w0 I (.code (sub [1, 1, 0, 1, 0, 0] B32) :: .inLoop (sub [1, 1, 0, 1, 0, 0] B32) :: .inBlock 0 :: K) [(0, a0_v), (3, y_3_v), (4, .int .i64 x4_2)] [(Value.ownBlock y_3_v, .cells y_3_c 5 (0, 0))] := by
  intro k
  induction k with
  | zero => intro x4_2 y_3 y_3_v y_3_c r0 ho_y_3 h; simp [ref03_high.L0] at h
  | succ k ih =>
    intro x4_2 y_3 y_3_v y_3_c r0 ho_y_3 h hk
    unfold ref03_high.L0 at h
    refine TT.seq (x := sub [1, 1, 0, 1, 0, 0, 0] B32) (y := sub [1, 1, 0, 1, 0, 0, 1] B32) ?_
    refine TT.seq (x := sub [1, 1, 0, 1, 0, 0, 0, 0] B32) (y := sub [1, 1, 0, 1, 0, 0, 0, 1] B32) ?_
    refine TT.region (id := 3) (n := 2) (ops := (opsOf (sub [1, 1, 0, 1, 0, 0, 0, 0] B32))) [(.pure, none), (.pure, none)] rfl ?_
    show DL _ _ _ _ _ _ _ _ _ _ [0, 1] _ _
    refine DL.pu 9 (.int .i64 x4_2) rfl (p_move rfl rfl) ?_
    refine DL.pu 10 (.bool (decide (0 ≤ x4_2))) rfl (p_geq rfl rfl rfl) ?_
    refine DL.nil ?_
    by_cases c149 : (decide (0 ≤ x4_2)) = true
    · have h150 := ite_true c149 h
      refine TT.cond_true (x := sub [1, 1, 0, 1, 0, 0, 0, 1, 0] B32) (y := sub [1, 1, 0, 1, 0, 0, 0, 1, 1] B32) rfl c149 ?_
      refine TT.skip ?_
      refine TT.seq (x := sub [1, 1, 0, 1, 0, 0, 1, 0] B32) (y := sub [1, 1, 0, 1, 0, 0, 1, 1] B32) ?_
      refine TT.block (c := sub [1, 1, 0, 1, 0, 0, 1, 0, 0] B32) ?_
      refine TT.seq (x := sub [1, 1, 0, 1, 0, 0, 1, 0, 0, 0] B32) (y := sub [1, 1, 0, 1, 0, 0, 1, 0, 0, 1] B32) ?_
      refine TT.region (id := 5) (n := 1) (ops := (opsOf (sub [1, 1, 0, 1, 0, 0, 1, 0, 0, 0] B32))) [(.pure, none)] rfl ?_
      show DL _ _ _ _ _ _ _ _ _ _ [0] _ _
      refine DL.pu 5 (.int .i64 7) rfl (p_assign rfl rfl) ?_
      refine DL.nil ?_
      refine TT.block (c := sub [1, 1, 0, 1, 0, 0, 1, 0, 0, 1, 0] B32) ?_
      refine TT.loop (c := sub [1, 1, 0, 1, 0, 0, 1, 0, 0, 1, 0, 0] B32) ?_
      obtain ⟨z_o1_221, h240, h241⟩ := bind_some h150
      refine TT.weak (ref03_high.L1_ok a0 a0_v x4_2 hr_a0 9 7 y_3 y_3_v y_3_c z_o1_221 ho_y_3 h240 (fun z_o1_221_v z_o1_221_c ho_z_o1_221 => ?_)) (Sub.cons rfl (Sub.cons rfl (Sub.cons rfl (Sub.cons rfl (Sub.nil _)))))
      refine TT.inBlock ?_
      refine TT.region (id := 4) (n := 3) (ops := (opsOf (sub [1, 1, 0, 1, 0, 0, 1, 1] B32))) [(.pure, none), (.pure, none), (.pure, none)] rfl ?_
      show DL _ _ _ _ _ _ _ _ _ _ [0, 1, 2] _ _
      refine DL.pu 11 (.int .i64 x4_2) rfl (p_move rfl rfl) ?_
      refine DL.pu 12 (.int .i64 (IntKind.i64.wrap (x4_2 - 1))) rfl (p_sub rfl rfl rfl) ?_
      refine DL.pu 4 (.int .i64 (IntKind.i64.wrap (x4_2 - 1))) rfl (p_assign rfl rfl) ?_
      refine DL.nil ?_
      refine TT.inLoop ?_
      exact TT.weak (ih (IntKind.i64.wrap (x4_2 - 1)) z_o1_221 z_o1_221_v z_o1_221_c r0 ho_z_o1_221 h241 hk) (Sub.cons rfl (Sub.cons rfl (Sub.cons rfl (Sub.nil _))))
    · replace c149 := Bool.eq_false_iff.mpr c149
      have h242 := ite_false c149 h
      refine TT.cond_false (x := sub [1, 1, 0, 1, 0, 0, 0, 1, 0] B32) (y := sub [1, 1, 0, 1, 0, 0, 0, 1, 1] B32) rfl c149 ?_
      refine TT.exit rfl ?_
      obtain rfl := Option.some.inj h242
      exact TT.weak (hk y_3_v y_3_c ho_y_3) (Sub.cons rfl (Sub.nil _))

def ref03_high.f (a0 : List Int) : Option (List Int) := (ref03_high.L0 a0 (a0.length + 1) (IntKind.i64.wrap ((a0.length : Int) - 1)) ([] : List Int)).bind fun z_o1_148 => some z_o1_148
set_option maxRecDepth 20000 in
theorem ref03_high.ok {a0 : List Int} {a0_v : Value} {r : List Int} (h : ref03_high.f a0 = some r) (w : World) (hr_a0 : IntRow (heapOf w) .u8 a0_v a0) : Calls Try.prog 32 #[a0_v] w (PostOwn id .u8 5 r w) := by
  unfold ref03_high.f at h
  refine calls_of_TT (N := 29) (S := [(0, a0_v)]) (c := B32) Try.func32 rfl rfl rfl (by simp) ?_
  show TT _ _ _ _ _ _ [.code (sub [] B32)] _ _
  refine TT.seq (x := sub [0] B32) (y := sub [1] B32) ?_
  refine TT.region (id := 0) (n := 1) (ops := (opsOf (sub [0] B32))) [(.pure, none)] rfl ?_
  show DL _ _ _ _ _ _ _ _ _ _ [0] _ _
  refine DL.pu 2 (.slice none 0 0) rfl (p_assign rfl rfl) ?_
  refine DL.nil ?_
  refine TT.seq (x := sub [1, 0] B32) (y := sub [1, 1] B32) ?_
  refine TT.region (id := 1) (n := 1) (ops := (opsOf (sub [1, 0] B32))) [(.pure, none)] rfl ?_
  show DL _ _ _ _ _ _ _ _ _ _ [0] _ _
  refine DL.pu 3 (.slice none 0 0) rfl (p_assign rfl rfl) ?_
  refine DL.nil ?_
  refine TT.seq (x := sub [1, 1, 0] B32) (y := sub [1, 1, 1] B32) ?_
  refine TT.seq (x := sub [1, 1, 0, 0] B32) (y := sub [1, 1, 0, 1] B32) ?_
  refine TT.region (id := 2) (n := 4) (ops := (opsOf (sub [1, 1, 0, 0] B32))) [(.pure, none), (.pure, none), (.pure, none), (.pure, none)] rfl ?_
  show DL _ _ _ _ _ _ _ _ _ _ [0, 1, 2, 3] _ _
  refine DL.pu 6 (a0_v) rfl (p_move rfl rfl) ?_
  refine DL.pu 7 (.int .i64 (a0.length : Int)) rfl (p_slLen ty_u37 (RowV.sl hr_a0) rfl rfl) ?_
  refine DL.pu 8 (.int .i64 (IntKind.i64.wrap ((a0.length : Int) - 1))) rfl (p_sub rfl rfl rfl) ?_
  refine DL.pu 4 (.int .i64 (IntKind.i64.wrap ((a0.length : Int) - 1))) rfl (p_assign rfl rfl) ?_
  refine DL.nil ?_
  refine TT.block (c := sub [1, 1, 0, 1, 0] B32) ?_
  refine TT.nilOwn (e := 5) ?_
  refine TT.loop (c := sub [1, 1, 0, 1, 0, 0] B32) ?_
  obtain ⟨z_o1_148, h243, h244⟩ := bind_some h
  refine TT.weak (ref03_high.L0_ok a0 a0_v hr_a0 (a0.length + 1) (IntKind.i64.wrap ((a0.length : Int) - 1)) ([] : List Int) (.slice none 0 0) (#[]) z_o1_148 (IntOwn.nil .u8) h243 (fun z_o1_148_v z_o1_148_c ho_z_o1_148 => ?_)) (Sub.cons rfl (Sub.cons rfl (Sub.cons rfl (Sub.nil _))))
  refine TT.seq (x := sub [1, 1, 1, 0] B32) (y := sub [1, 1, 1, 1] B32) ?_
  refine TT.region (id := 9) (n := 2) (ops := (opsOf (sub [1, 1, 1, 0] B32))) [(.pure, none), (.pure, none)] rfl ?_
  show DL _ _ _ _ _ _ _ _ _ _ [0, 1] _ _
  refine DL.pu 28 (z_o1_148_v) rfl (p_move rfl rfl) ?_
  refine DL.pu 2 (z_o1_148_v) rfl (p_assign rfl rfl) ?_
  refine DL.nil ?_
  obtain rfl := Option.some.inj h244
  exact retOwn (j := 0) Try.func32 rfl rfl rfl ho_z_o1_148

/-! ### escutcheon/escutcheonref03.bits: function 31 -/
noncomputable def B31 : Code := bodyOf Try.f31
def ref03_bits.L1 : Nat → Int → Int → List Int → Option (List Int)
  | 0, _, _, _ => none
  | k + 1, x6_170, x7_171, y_172 => if (decide (x7_171 < 16)) = true then (req (0 ≤ x7_171) (req (x7_171 < 16) (nm (IntKind.u64.wrap (2 * (y_172.getD x7_171.toNat 0))) fun t240 => nm (Int.tmod (IntKind.u64.wrap (t240 + x6_170)) 65536) fun t243 => nm (IntKind.u64.wrap (Int.tdiv (IntKind.u64.wrap (t240 + x6_170)) 65536)) fun t246 => ref03_bits.L1 k t246 (IntKind.i64.wrap (x7_171 + 1)) (y_172.set x7_171.toNat t243)))) else (some y_172)
set_option maxRecDepth 20000 in
theorem ref03_bits.L1_ok (a0_v : Value) (b1 : Nat) (b2 : Nat) (t3 : List Int) (b6 : Nat) (x5_7 : Int) {R : Ending → World → Prop} {w0 : World} {I : Nat → Option Obj} {K : List Item} :
    ∀ (k : Nat) (x6_170 : Int) (x7_171 : Int) (y_172 : List Int) (r0 : List Int) (l_y_172 : y_172.length = 16) (h : ref03_bits.L1 k x6_170 x7_171 y_172 = some r0) (hk : r0.length = 16 → TT Try.prog 31 R 45 w0 I K [(0, a0_v), (2, ptr b1 0), (3, ptr b2 0), (4, ptr b6 0), (5, .int .i64 x5_7)] [(some b6, .cells (enc .u64 t3) 52 (0, 0)), (some b2, .cells (enc .u64 r0) 52 (0, 0)), (some b1, .cells (enc .u64 (List.replicate 16 0)) 52 (0, 0))]),
      TT Try.prog 31 R 45 w0 I (.code (sub [1, 1, 1, 0, 1, 0, 0, 1, 0, 0, 1, 0, 1, 0, 0] B31) :: .inLoop (sub [1, 1, 1, 0, 1, 0, 0, 1, 0, 0, 1, 0, 1, 0, 0] B31) :: .inBlock 2 :: K) [(0, a0_v), (2, ptr b1 0), (3, ptr b2 0), (4, ptr b6 0), (5, .int .i64 x5_7), (6, .int .u64 x6_170), (7, .int .i64 x7_171)] [(some b6, .cells (enc .u64 t3) 52 (0, 0)), (some b2, .cells (enc .u64 y_172) 52 (0, 0)), (some b1, .cells (enc .u64 (List.replicate 16 0)) 52 (0, 0))] := by
  intro k
  induction k with
  | zero => intro x6_170 x7_171 y_172 r0 l_y_172 h; simp [ref03_bits.L1] at h
  | succ k ih =>
    intro x6_170 x7_171 y_172 r0 l_y_172 h hk
    unfold ref03_bits.L1 at h
    refine TT.seq (x := sub [1, 1, 1, 0, 1, 0, 0, 1, 0, 0, 1, 0, 1, 0, 0, 0] B31) (y := sub [1, 1, 1, 0, 1, 0, 0, 1, 0, 0, 1, 0, 1, 0, 0, 1] B31) ?_
    refine TT.seq (x := sub [1, 1, 1, 0, 1, 0, 0, 1, 0, 0, 1, 0, 1, 0, 0, 0, 0] B31) (y := sub [1, 1, 1, 0, 1, 0, 0, 1, 0, 0, 1, 0, 1, 0, 0, 0, 1] B31) ?_
    refine TT.region (id := 8) (n := 2) (ops := (opsOf (sub [1, 1, 1, 0, 1, 0, 0, 1, 0, 0, 1, 0, 1, 0, 0, 0, 0] B31))) [(.pure, none), (.pure, none)] rfl ?_
    show DL _ _ _ _ _ _ _ _ _ _ [0, 1] _ _
    refine DL.pu 21 (.int .i64 x7_171) rfl (p_move rfl rfl) ?_
    refine DL.pu 22 (.bool (decide (x7_171 < 16))) rfl (p_lss rfl rfl rfl) ?_
    refine DL.nil ?_
    by_cases c234 : (decide (x7_171 < 16)) = true
    · have h235 := ite_true c234 h
      refine TT.cond_true (x := sub [1, 1, 1, 0, 1, 0, 0, 1, 0, 0, 1, 0, 1, 0, 0, 0, 1, 0] B31) (y := sub [1, 1, 1, 0, 1, 0, 0, 1, 0, 0, 1, 0, 1, 0, 0, 0, 1, 1] B31) rfl c234 ?_
      refine TT.skip ?_
      refine TT.seq (x := sub [1, 1, 1, 0, 1, 0, 0, 1, 0, 0, 1, 0, 1, 0, 0, 1, 0] B31) (y := sub [1, 1, 1, 0, 1, 0, 0, 1, 0, 0, 1, 0, 1, 0, 0, 1, 1] B31) ?_
      refine TT.block (c := sub [1, 1, 1, 0, 1, 0, 0, 1, 0, 0, 1, 0, 1, 0, 0, 1, 0, 0] B31) ?_
      refine TT.seq (x := sub [1, 1, 1, 0, 1, 0, 0, 1, 0, 0, 1, 0, 1, 0, 0, 1, 0, 0, 0] B31) (y := sub [1, 1, 1, 0, 1, 0, 0, 1, 0, 0, 1, 0, 1, 0, 0, 1, 0, 0, 1] B31) ?_
      refine TT.region (id := 10) (n := 7) (ops := (opsOf (sub [1, 1, 1, 0, 1, 0, 0, 1, 0, 0, 1, 0, 1, 0, 0, 1, 0, 0, 0] B31))) [(.pure, none), (.pure, none), (.quiet, none), (.pure, none), (.pure, none), (.pure, none), (.pure, none)] rfl ?_
      show DL _ _ _ _ _ _ _ _ _ _ [0, 1, 2, 3, 4, 5, 6] _ _
      refine DL.pu 25 (.int .i64 x7_171) rfl (p_move rfl rfl) ?_
      obtain ⟨g236, h237⟩ := req_some h235
      obtain ⟨g238, h239⟩ := req_some h237
      refine DL.pu 26 (ptr b2 x7_171.toNat) rfl (p_ix ty_u52 ty_s39 g236 g238 rfl rfl rfl) ?_
      refine DL.qu 27 (.int .u64 (y_172.getD x7_171.toNat 0)) rfl (f_load (j := 1) ty_a39 rfl (enc_at l_y_172 g236 g238) rfl rfl) ?_
      obtain ⟨t240, e241, h242⟩ := nm_some h239
      refine DL.pu 28 (.int .u64 t240) rfl (by rw [e241]; exact p_mul rfl rfl rfl) ?_
      refine DL.pu 29 (.int .u64 x6_170) rfl (p_move rfl rfl) ?_
      refine DL.pu 30 (.int .u64 (IntKind.u64.wrap (t240 + x6_170))) rfl (p_add rfl rfl rfl) ?_
      refine DL.pu 8 (.int .u64 (IntKind.u64.wrap (t240 + x6_170))) rfl (p_assign rfl rfl) ?_
      refine DL.nil ?_
      refine TT.seq (x := sub [1, 1, 1, 0, 1, 0, 0, 1, 0, 0, 1, 0, 1, 0, 0, 1, 0, 0, 1, 0] B31) (y := sub [1, 1, 1, 0, 1, 0, 0, 1, 0, 0, 1, 0, 1, 0, 0, 1, 0, 0, 1, 1] B31) ?_
      refine TT.region (id := 11) (n := 5) (ops := (opsOf (sub [1, 1, 1, 0, 1, 0, 0, 1, 0, 0, 1, 0, 1, 0, 0, 1, 0, 0, 1, 0] B31))) [(.pure, none), (.pure, none), (.pure, none), (.pure, none), (.store, none)] rfl ?_
      show DL _ _ _ _ _ _ _ _ _ _ [0, 1, 2, 3, 4] _ _
      refine DL.pu 31 (.int .i64 x7_171) rfl (p_move rfl rfl) ?_
      refine DL.pu 32 (.int .u64 (IntKind.u64.wrap (t240 + x6_170))) rfl (p_move rfl rfl) ?_
      obtain ⟨t243, e244, h245⟩ := nm_some h242
      refine DL.pu 33 (.int .u64 t243) rfl (by rw [e244]; exact p_rem (by decide) rfl rfl rfl) ?_
      refine DL.pu 34 (ptr b2 x7_171.toNat) rfl (p_ix ty_u52 ty_s39 g236 g238 rfl rfl rfl) ?_
      refine DL.put (H' := [(some b6, .cells (enc .u64 t3) 52 (0, 0)), (some b2, .cells (enc .u64 (y_172.set x7_171.toNat t243)) 52 (0, 0)), (some b1, .cells (enc .u64 (List.replicate 16 0)) 52 (0, 0))]) (i := 4) rfl (Wn.none rfl) rfl rfl (f_storeE (j := 1) ty_s39 rfl (lt_nat l_y_172 g236 g238) rfl rfl rfl) (keep_none rfl) ?_
      refine DL.nil ?_
      refine TT.region (id := 12) (n := 3) (ops := (opsOf (sub [1, 1, 1, 0, 1, 0, 0, 1, 0, 0, 1, 0, 1, 0, 0, 1, 0, 0, 1, 1] B31))) [(.pure, none), (.pure, none), (.pure, none)] rfl ?_
      show DL _ _ _ _ _ _ _ _ _ _ [0, 1, 2] _ _
      refine DL.pu 35 (.int .u64 (IntKind.u64.wrap (t240 + x6_170))) rfl (p_move rfl rfl) ?_
      obtain ⟨t246, e247, h248⟩ := nm_some h245
      refine DL.pu 36 (.int .u64 t246) rfl (by rw [e247]; exact p_quo (by decide) rfl rfl rfl) ?_
      refine DL.pu 6 (.int .u64 t246) rfl (p_assign rfl rfl) ?_
      refine DL.nil ?_
      refine TT.inBlock ?_
      refine TT.region (id := 9) (n := 3) (ops := (opsOf (sub [1, 1, 1, 0, 1, 0, 0, 1, 0, 0, 1, 0, 1, 0, 0, 1, 1] B31))) [(.pure, none), (.pure, none), (.pure, none)] rfl ?_
      show DL _ _ _ _ _ _ _ _ _ _ [0, 1, 2] _ _
      refine DL.pu 23 (.int .i64 x7_171) rfl (p_move rfl rfl) ?_
      refine DL.pu 24 (.int .i64 (IntKind.i64.wrap (x7_171 + 1))) rfl (p_add rfl rfl rfl) ?_
      refine DL.pu 7 (.int .i64 (IntKind.i64.wrap (x7_171 + 1))) rfl (p_assign rfl rfl) ?_
      refine DL.nil ?_
      refine TT.inLoop ?_
      exact TT.weak (ih t246 (IntKind.i64.wrap (x7_171 + 1)) (y_172.set x7_171.toNat t243) r0 (len_set l_y_172) h248 hk) (Sub.cons rfl (Sub.cons rfl (Sub.cons rfl (Sub.cons rfl (Sub.cons rfl (Sub.cons rfl (Sub.cons rfl (Sub.nil _))))))))
    · replace c234 := Bool.eq_false_iff.mpr c234
      have h249 := ite_false c234 h
      refine TT.cond_false (x := sub [1, 1, 1, 0, 1, 0, 0, 1, 0, 0, 1, 0, 1, 0, 0, 0, 1, 0] B31) (y := sub [1, 1, 1, 0, 1, 0, 0, 1, 0, 0, 1, 0, 1, 0, 0, 0, 1, 1] B31) rfl c234 ?_
      refine TT.exit rfl ?_
      obtain rfl := Option.some.inj h249
      exact TT.weak (hk l_y_172) (Sub.cons rfl (Sub.cons rfl (Sub.cons rfl (Sub.cons rfl (Sub.cons rfl (Sub.nil _))))))

def ref03_bits.L0 (a0 : List Int) (t3 : List Int) : Nat → Int → List Int → Option (List Int)
  | 0, _, _ => none
  | k + 1, x5_7, y_8 => if (decide (x5_7 < (a0.length : Int))) = true then (req (0 ≤ x5_7) (req (x5_7 < (a0.length : Int)) ((ref03_bits.L1 17 (IntKind.u64.wrap (a0.getD x5_7.toNat 0)) 0 y_8).bind fun z_b2_233 => (ref02_Less.f z_b2_233 t3).bind fun t252 => (if (!t252) = true then ((ref02_Minus.f z_b2_233 t3).bind fun t261 => some t261) else (some z_b2_233)).bind fun j_b2_256 => ref03_bits.L0 a0 t3 k (IntKind.i64.wrap (x5_7 + 1)) j_b2_256))) else (some y_8)
set_option maxRecDepth 20000 in
theorem ref03_bits.L0_ok (a0 : List Int) (a0_v : Value) (b1 : Nat) (b2 : Nat) (t3 : List Int) (b6 : Nat) {R : Ending → World → Prop} {w0 : World} {I : Nat → Option Obj} {K : List Item} (hr_a0 : IntRow (I) .u8 a0_v a0) (l_t3 : t3.length = 16) :
    ∀ (k : Nat) (x5_7 : Int) (y_8 : List Int) (r0 : List Int) (l_y_8 : y_8.length = 16) (h : ref03_bits.L0 a0 t3 k x5_7 y_8 = some r0) (hk : r0.length = 16 → TT Try.prog 31 R 45 w0 I K [(2, ptr b1 0), (3, ptr b2 0)] [(some b6, .cells (enc .u64 t3) 52 (0, 0)), (some b2, .cells (enc .u64 r0) 52 (0, 0)), (some b1, .cells (enc .u64 (List.replicate 16 0)) 52 (0, 0))]),
      TT Try.prog 31 R 45 w0 I (.code (sub [1, 1, 1, 0, 1, 0, 0] B31) :: .inLoop (sub [1, 1, 1, 0, 1, 0, 0] B31) :: .inBlock 0 :: K) [(0, a0_v), (2, ptr b1 0), (3, ptr b2 0), (4, ptr b6 0), (5, .int .i64 x5_7)] [(some b6, .cells (enc .u64 t3) 52 (0, 0)), (some b2, .cells (enc .u64 y_8) 52 (0, 0)), (some b1, .cells (enc .u64 (List.replicate 16 0)) 52 (0, 0))] := by
  intro k
  induction k with
  | zero => intro x5_7 y_8 r0 l_y_8 h; simp [ref03_bits.L0] at h
  | succ k ih =>
    intro x5_7 y_8 r0 l_y_8 h hk
    unfold ref03_bits.L0 at h
    refine TT.seq (x := sub [1, 1, 1, 0, 1, 0, 0, 0] B31) (y := sub [1, 1, 1, 0, 1, 0, 0, 1] B31) ?_
    refine TT.seq (x := sub [1, 1, 1, 0, 1, 0, 0, 0, 0] B31) (y := sub [1, 1, 1, 0, 1, 0, 0, 0, 1] B31) ?_
    refine TT.region (id := 4) (n := 4) (ops := (opsOf (sub [1, 1, 1, 0, 1, 0, 0, 0, 0] B31))) [(.pure, none), (.pure, none), (.pure, none), (.pure, none)] rfl ?_
    show DL _ _ _ _ _ _ _ _ _ _ [0, 1, 2, 3] _ _
    refine DL.pu 10 (.int .i64 x5_7) rfl (p_move rfl rfl) ?_
    refine DL.pu 11 (a0_v) rfl (p_move rfl rfl) ?_
    refine DL.pu 12 (.int .i64 (a0.length : Int)) rfl (p_slLen ty_u37 (RowV.sl hr_a0) rfl rfl) ?_
    refine DL.pu 13 (.bool (decide (x5_7 < (a0.length : Int)))) rfl (p_lss rfl rfl rfl) ?_
    refine DL.nil ?_
    by_cases c163 : (decide (x5_7 < (a0.length : Int))) = true
    · have h164 := ite_true c163 h
      refine TT.cond_true (x := sub [1, 1, 1, 0, 1, 0, 0, 0, 1, 0] B31) (y := sub [1, 1, 1, 0, 1, 0, 0, 0, 1, 1] B31) rfl c163 ?_
      refine TT.skip ?_
      refine TT.seq (x := sub [1, 1, 1, 0, 1, 0, 0, 1, 0] B31) (y := sub [1, 1, 1, 0, 1, 0, 0, 1, 1] B31) ?_
      refine TT.block (c := sub [1, 1, 1, 0, 1, 0, 0, 1, 0, 0] B31) ?_
      refine TT.seq (x := sub [1, 1, 1, 0, 1, 0, 0, 1, 0, 0, 0] B31) (y := sub [1, 1, 1, 0, 1, 0, 0, 1, 0, 0, 1] B31) ?_
      refine TT.region (id := 6) (n := 6) (ops := (opsOf (sub [1, 1, 1, 0, 1, 0, 0, 1, 0, 0, 0] B31))) [(.pure, none), (.pure, none), (.pure, none), (.pure, none), (.pure, none), (.pure, none)] rfl ?_
      show DL _ _ _ _ _ _ _ _ _ _ [0, 1, 2, 3, 4, 5] _ _
      refine DL.pu 16 (a0_v) rfl (p_move rfl rfl) ?_
      refine DL.pu 17 (.int .i64 x5_7) rfl (p_move rfl rfl) ?_
      obtain ⟨g165, h166⟩ := req_some h164
      obtain ⟨g167, h168⟩ := req_some h166
      refine DL.pu 18 (elp a0_v x5_7.toNat) rfl (p_slIx1 ty_u37 ty_s5 (RowV.some hr_a0 g165 g167) g165 g167 rfl rfl rfl) ?_
      refine DL.imm (v := .int .u8 (a0.getD x5_7.toNat 0)) rfl (Wn.none rfl) rfl rfl rfl (i_loadEl hr_a0 (encl_get .u8 (lt_len g165 g167)) ty_a5 rfl rfl) ?_
      refine DL.pu 20 (.int .u64 (IntKind.u64.wrap (a0.getD x5_7.toNat 0))) rfl (p_conv ty_u5 ty_u39 ⟨_, rfl⟩ rfl rfl) ?_
      refine DL.pu 6 (.int .u64 (IntKind.u64.wrap (a0.getD x5_7.toNat 0))) rfl (p_assign rfl rfl) ?_
      refine DL.nil ?_
      refine TT.seq (x := sub [1, 1, 1, 0, 1, 0, 0, 1, 0, 0, 1, 0] B31) (y := sub [1, 1, 1, 0, 1, 0, 0, 1, 0, 0, 1, 1] B31) ?_
      refine TT.seq (x := sub [1, 1, 1, 0, 1, 0, 0, 1, 0, 0, 1, 0, 0] B31) (y := sub [1, 1, 1, 0, 1, 0, 0, 1, 0, 0, 1, 0, 1] B31) ?_
      refine TT.region (id := 7) (n := 1) (ops := (opsOf (sub [1, 1, 1, 0, 1, 0, 0, 1, 0, 0, 1, 0, 0] B31))) [(.pure, none)] rfl ?_
      show DL _ _ _ _ _ _ _ _ _ _ [0] _ _
      refine DL.pu 7 (.int .i64 0) rfl (p_assign rfl rfl) ?_
      refine DL.nil ?_
      refine TT.block (c := sub [1, 1, 1, 0, 1, 0, 0, 1, 0, 0, 1, 0, 1, 0] B31) ?_
      refine TT.loop (c := sub [1, 1, 1, 0, 1, 0, 0, 1, 0, 0, 1, 0, 1, 0, 0] B31) ?_
      obtain ⟨z_b2_233, h250, h251⟩ := bind_some h168
      refine TT.weak (ref03_bits.L1_ok a0_v b1 b2 t3 b6 x5_7 17 (IntKind.u64.wrap (a0.getD x5_7.toNat 0)) 0 y_8 z_b2_233 l_y_8 h250 (fun l_z_b2_233 => ?_)) (Sub.cons rfl (Sub.cons rfl (Sub.cons rfl (Sub.cons rfl (Sub.cons rfl (Sub.cons rfl (Sub.cons rfl (Sub.nil _))))))))
      refine TT.seq (x := sub [1, 1, 1, 0, 1, 0, 0, 1, 0, 0, 1, 1, 0] B31) (y := sub [1, 1, 1, 0, 1, 0, 0, 1, 0, 0, 1, 1, 1] B31) ?_
      refine TT.region (id := 13) (n := 4) (ops := (opsOf (sub [1, 1, 1, 0, 1, 0, 0, 1, 0, 0, 1, 1, 0] B31))) [(.quiet, none), (.quiet, none), (.quiet, none), (.pure, none)] rfl ?_
      show DL _ _ _ _ _ _ _ _ _ _ [0, 1, 2, 3] _ _
      refine DL.qu 37 (.agg (enc .u64 z_b2_233)) rfl (f_loadA (j := 1) ty_a52 ty_s52 rfl (enc_sz l_z_b2_233) rfl rfl) ?_
      refine DL.qu 38 (.agg (enc .u64 t3)) rfl (f_loadA (j := 0) ty_a52 ty_s52 rfl (enc_sz l_t3) rfl rfl) ?_
      obtain ⟨t252, h253, h254⟩ := bind_some h251
      refine DL.qu 39 (.bool t252) rfl (f_call rfl rfl (args_val (vs := [.agg (enc .u64 z_b2_233), .agg (enc .u64 t3)]) rfl) (fun w => enter33 _ w) (fun w => ref02_Less.val l_z_b2_233 l_t3 h253 w)) ?_
      refine DL.pu 40 (.bool (!t252)) rfl (p_not rfl rfl) ?_
      refine DL.nil ?_
      obtain ⟨j_b2_256, h257, h258⟩ := bind_some h254
      refine TT.cutI (j_b2_256.length = 16) (.inBlock 1 :: .code (sub [1, 1, 1, 0, 1, 0, 0, 1, 1] B31) :: .inLoop (sub [1, 1, 1, 0, 1, 0, 0] B31) :: .inBlock 0 :: K) [(0, a0_v), (2, ptr b1 0), (3, ptr b2 0), (4, ptr b6 0), (5, .int .i64 x5_7)] [(some b6, .cells (enc .u64 t3) 52 (0, 0)), (some b2, .cells (enc .u64 j_b2_256) 52 (0, 0)), (some b1, .cells (enc .u64 (List.replicate 16 0)) 52 (0, 0))] ?_ (fun J259 => ?_)
      · intro l_j_b2_256
        refine TT.inBlock ?_
        refine TT.region (id := 5) (n := 3) (ops := (opsOf (sub [1, 1, 1, 0, 1, 0, 0, 1, 1] B31))) [(.pure, none), (.pure, none), (.pure, none)] rfl ?_
        show DL _ _ _ _ _ _ _ _ _ _ [0, 1, 2] _ _
        refine DL.pu 14 (.int .i64 x5_7) rfl (p_move rfl rfl) ?_
        refine DL.pu 15 (.int .i64 (IntKind.i64.wrap (x5_7 + 1))) rfl (p_add rfl rfl rfl) ?_
        refine DL.pu 5 (.int .i64 (IntKind.i64.wrap (x5_7 + 1))) rfl (p_assign rfl rfl) ?_
        refine DL.nil ?_
        refine TT.inLoop ?_
        exact TT.weak (ih (IntKind.i64.wrap (x5_7 + 1)) j_b2_256 r0 l_j_b2_256 h258 hk) (Sub.cons rfl (Sub.cons rfl (Sub.cons rfl (Sub.cons rfl (Sub.cons rfl (Sub.nil _))))))
      · by_cases c255 : (!t252) = true
        · have h260 := ite_true c255 h257
          refine TT.cond_true (x := sub [1, 1, 1, 0, 1, 0, 0, 1, 0, 0, 1, 1, 1, 0] B31) (y := sub [1, 1, 1, 0, 1, 0, 0, 1, 0, 0, 1, 1, 1, 1] B31) rfl c255 ?_
          refine TT.region (id := 14) (n := 4) (ops := (opsOf (sub [1, 1, 1, 0, 1, 0, 0, 1, 0, 0, 1, 1, 1, 0] B31))) [(.quiet, none), (.quiet, none), (.quiet, none), (.store, none)] rfl ?_
          show DL _ _ _ _ _ _ _ _ _ _ [0, 1, 2, 3] _ _
          refine DL.qu 41 (.agg (enc .u64 z_b2_233)) rfl (f_loadA (j := 1) ty_a52 ty_s52 rfl (enc_sz l_z_b2_233) rfl rfl) ?_
          refine DL.qu 42 (.agg (enc .u64 t3)) rfl (f_loadA (j := 0) ty_a52 ty_s52 rfl (enc_sz l_t3) rfl rfl) ?_
          obtain ⟨t261, h262, h263⟩ := bind_some h260
          have l_t261 := ref02_Minus.len l_z_b2_233 l_t3 h262
          refine DL.qu 43 (.agg (enc .u64 t261)) rfl (f_call rfl rfl (args_val (vs := [.agg (enc .u64 z_b2_233), .agg (enc .u64 t3)]) rfl) (fun w => enter34 _ w) (fun w => ref02_Minus.val l_z_b2_233 l_t3 h262 w)) ?_
          refine DL.put (H' := [(some b6, .cells (enc .u64 t3) 52 (0, 0)), (some b2, .cells (enc .u64 t261) 52 (0, 0)), (some b1, .cells (enc .u64 (List.replicate 16 0)) 52 (0, 0))]) (i := 3) rfl (Wn.none rfl) rfl rfl (f_storeA (j := 1) ty_s52 rfl (enc_sz l_t261) (enc_sz l_z_b2_233) (enc_oneCell _ _) rfl rfl rfl) (keep_none rfl) ?_
          refine DL.nil ?_
          obtain rfl := Option.some.inj h263
          exact TT.weak (J259 l_t261) (Sub.cons rfl (Sub.cons rfl (Sub.cons rfl (Sub.cons rfl (Sub.cons rfl (Sub.nil _))))))
        · replace c255 := Bool.eq_false_iff.mpr c255
          have h264 := ite_false c255 h257
          refine TT.cond_false (x := sub [1, 1, 1, 0, 1, 0, 0, 1, 0, 0, 1, 1, 1, 0] B31) (y := sub [1, 1, 1, 0, 1, 0, 0, 1, 0, 0, 1, 1, 1, 1] B31) rfl c255 ?_
          refine TT.skip ?_
          obtain rfl := Option.some.inj h264
          exact TT.weak (J259 l_z_b2_233) (Sub.cons rfl (Sub.cons rfl (Sub.cons rfl (Sub.cons rfl (Sub.cons rfl (Sub.nil _))))))
    · replace c163 := Bool.eq_false_iff.mpr c163
      have h265 := ite_false c163 h
      refine TT.cond_false (x := sub [1, 1, 1, 0, 1, 0, 0, 0, 1, 0] B31) (y := sub [1, 1, 1, 0, 1, 0, 0, 0, 1, 1] B31) rfl c163 ?_
      refine TT.exit rfl ?_
      obtain rfl := Option.some.inj h265
      exact TT.weak (hk l_y_8) (Sub.cons rfl (Sub.cons rfl (Sub.nil _)))

def ref03_bits.f (a0 : List Int) : Option (List Int) := (ref03_Order.f).bind fun t3 => (ref03_bits.L0 a0 t3 (a0.length + 1) 0 (List.replicate 16 0)).bind fun z_b2_162 => some z_b2_162
set_option maxRecDepth 20000 in
theorem ref03_bits.ok {a0 : List Int} {a0_v : Value} {r : List Int} (h : ref03_bits.f a0 = some r) (w : World) (hr_a0 : IntRow (heapOf w) .u8 a0_v a0) : Calls Try.prog 31 #[a0_v] w (Post (fun u => u = .agg (enc .u64 r) ∧ r.length = 16) w) := by
  unfold ref03_bits.f at h
  refine calls_of_TT (N := 45) (S := [(0, a0_v)]) (c := B31) Try.func31 rfl rfl rfl (by simp) ?_
  show TT _ _ _ _ _ _ [.code (sub [] B31)] _ _
  refine TT.seq (x := sub [0] B31) (y := sub [1] B31) ?_
  refine TT.region (id := 0) (n := 1) (ops := (opsOf (sub [0] B31))) [(.alloc, none)] rfl ?_
  show DL _ _ _ _ _ _ _ _ _ _ [0] _ _
  refine DL.new (ob := .cells (enc .u64 (List.replicate 16 0)) 52) (mk := fun b => ptr b 0) (i := 0) rfl (Wn.none rfl) rfl rfl rfl (f_alloc ty_z52 rfl) ?_
  intro b1 hb1
  refine DL.nil ?_
  refine TT.seq (x := sub [1, 0] B31) (y := sub [1, 1] B31) ?_
  refine TT.region (id := 1) (n := 1) (ops := (opsOf (sub [1, 0] B31))) [(.alloc, none)] rfl ?_
  show DL _ _ _ _ _ _ _ _ _ _ [0] _ _
  refine DL.new (ob := .cells (enc .u64 (List.replicate 16 0)) 52) (mk := fun b => ptr b 0) (i := 0) rfl (Wn.none rfl) rfl rfl rfl (f_alloc ty_z52 rfl) ?_
  intro b2 hb2
  refine DL.nil ?_
  refine TT.seq (x := sub [1, 1, 0] B31) (y := sub [1, 1, 1] B31) ?_
  refine TT.region (id := 2) (n := 3) (ops := (opsOf (sub [1, 1, 0] B31))) [(.quiet, none), (.alloc, none), (.store, none)] rfl ?_
  show DL _ _ _ _ _ _ _ _ _ _ [0, 1, 2] _ _
  obtain ⟨t3, h4, h5⟩ := bind_some h
  have l_t3 := ref03_Order.len h4
  refine DL.qu 9 (.agg (enc .u64 t3)) rfl (f_call rfl rfl (args_val (vs := []) rfl) (fun w => enter29 _ w) (fun w => ref03_Order.val h4 w)) ?_
  refine DL.new (ob := .cells (enc .u64 (List.replicate 16 0)) 52) (mk := fun b => ptr b 0) (i := 1) rfl (Wn.none rfl) rfl rfl rfl (f_alloc ty_z52 rfl) ?_
  intro b6 hb6
  refine DL.put (H' := [(some b6, .cells (enc .u64 t3) 52 (0, 0)), (some b2, .cells (enc .u64 (List.replicate 16 0)) 52 (0, 0)), (some b1, .cells (enc .u64 (List.replicate 16 0)) 52 (0, 0))]) (i := 2) rfl (Wn.none rfl) rfl rfl (f_storeA (j := 0) ty_s52 rfl (enc_sz l_t3) (enc_sz (List.length_replicate)) (enc_oneCell _ _) rfl rfl rfl) (keep_none rfl) ?_
  refine DL.nil ?_
  refine TT.seq (x := sub [1, 1, 1, 0] B31) (y := sub [1, 1, 1, 1] B31) ?_
  refine TT.seq (x := sub [1, 1, 1, 0, 0] B31) (y := sub [1, 1, 1, 0, 1] B31) ?_
  refine TT.region (id := 3) (n := 1) (ops := (opsOf (sub [1, 1, 1, 0, 0] B31))) [(.pure, none)] rfl ?_
  show DL _ _ _ _ _ _ _ _ _ _ [0] _ _
  refine DL.pu 5 (.int .i64 0) rfl (p_assign rfl rfl) ?_
  refine DL.nil ?_
  refine TT.block (c := sub [1, 1, 1, 0, 1, 0] B31) ?_
  refine TT.loop (c := sub [1, 1, 1, 0, 1, 0, 0] B31) ?_
  obtain ⟨z_b2_162, h266, h267⟩ := bind_some h5
  refine TT.weak (ref03_bits.L0_ok a0 a0_v b1 b2 t3 b6 hr_a0 l_t3 (a0.length + 1) 0 (List.replicate 16 0) z_b2_162 (List.length_replicate) h266 (fun l_z_b2_162 => ?_)) (Sub.cons rfl (Sub.cons rfl (Sub.cons rfl (Sub.cons rfl (Sub.cons rfl (Sub.nil _))))))
  refine TT.seq (x := sub [1, 1, 1, 1, 0] B31) (y := sub [1, 1, 1, 1, 1] B31) ?_
  refine TT.region (id := 15) (n := 2) (ops := (opsOf (sub [1, 1, 1, 1, 0] B31))) [(.quiet, none), (.store, none)] rfl ?_
  show DL _ _ _ _ _ _ _ _ _ _ [0, 1] _ _
  refine DL.qu 44 (.agg (enc .u64 z_b2_162)) rfl (f_loadA (j := 1) ty_a52 ty_s52 rfl (enc_sz l_z_b2_162) rfl rfl) ?_
  refine DL.put (H' := [(some b6, .cells (enc .u64 t3) 52 (0, 0)), (some b2, .cells (enc .u64 z_b2_162) 52 (0, 0)), (some b1, .cells (enc .u64 z_b2_162) 52 (0, 0))]) (i := 1) rfl (Wn.none rfl) rfl rfl (f_storeA (j := 2) ty_s52 rfl (enc_sz l_z_b2_162) (enc_sz (List.length_replicate)) (enc_oneCell _ _) rfl rfl rfl) (keep_none rfl) ?_
  refine DL.nil ?_
  obtain rfl := Option.some.inj h267
  exact ret1 Try.func31 rfl (ResV.cell (j := 2) ty_a52 ty_s52 rfl rfl (enc_sz l_z_b2_162)) ⟨rfl, l_z_b2_162⟩
theorem ref03_bits.len {a0 : List Int} {r : List Int} (h : ref03_bits.f a0 = some r) : r.length = 16 := by
  obtain ⟨w, v0, hv0⟩ := row_world1 .u8 a0
  obtain ⟨v, hv⟩ := calls_fact1 (ref03_bits.ok h w hv0)
  exact hv.2
theorem ref03_bits.val {a0 : List Int} {a0_v : Value} {r : List Int} (h : ref03_bits.f a0 = some r) (w : World) (hr_a0 : IntRow (heapOf w) .u8 a0_v a0) : Calls Try.prog 31 #[a0_v] w fun e w' => e = .returned (.agg (enc .u64 r)) ∧ Below w.heap.size w w' :=
  calls_value ((ref03_bits.ok h w hr_a0).mono fun e w' ⟨v, he, hv, hb⟩ => ⟨v, he, hv.1, hb⟩)

/-! ### escutcheon/escutcheonref03.Reduce: function 16 -/
noncomputable def B16 : Code := bodyOf Try.f16
def ref03_Reduce.f (a0 : List Int) : Option (List Int) := (ref03_high.f a0).bind fun t2 => req (t2.length ≤ 1099511627776) ((ref03_bits.f t2).bind fun t8 => (ref02_Bytes.f t8).bind fun t11 => some t11)
set_option maxRecDepth 20000 in
theorem ref03_Reduce.ok {a0 : List Int} {a0_v : Value} {r : List Int} (h : ref03_Reduce.f a0 = some r) (w : World) (hr_a0 : IntRow (heapOf w) .u8 a0_v a0) : Calls Try.prog 16 #[a0_v] w (Post (fun u => u = .agg (enc .u8 r) ∧ r.length = 32) w) := by
  unfold ref03_Reduce.f at h
  refine calls_of_TT (N := 7) (S := [(0, a0_v)]) (c := B16) Try.func16 rfl rfl rfl (by simp) ?_
  show TT _ _ _ _ _ _ [.code (sub [] B16)] _ _
  refine TT.seq (x := sub [0] B16) (y := sub [1] B16) ?_
  refine TT.region (id := 0) (n := 1) (ops := (opsOf (sub [0] B16))) [(.alloc, none)] rfl ?_
  show DL _ _ _ _ _ _ _ _ _ _ [0] _ _
  refine DL.new (ob := .cells (enc .u8 (List.replicate 32 0)) 23) (mk := fun b => ptr b 0) (i := 0) rfl (Wn.none rfl) rfl rfl rfl (f_alloc ty_z23 rfl) ?_
  intro b1 hb1
  refine DL.nil ?_
  refine TT.seq (x := sub [1, 0] B16) (y := sub [1, 1] B16) ?_
  refine TT.region (id := 1) (n := 5) (ops := (opsOf (sub [1, 0] B16))) [(.pure, none), (.act, none), (.quiet, none), (.quiet, none), (.store, none)] rfl ?_
  show DL _ _ _ _ _ _ _ _ _ _ [0, 1, 2, 3, 4] _ _
  refine DL.pu 3 (a0_v) rfl (p_move rfl rfl) ?_
  obtain ⟨t2, h3, h4⟩ := bind_some h
  obtain ⟨g5, h6⟩ := req_some h4
  refine DL.own (zs := t2) (H' := fun t2_v t2_c => [(Value.ownBlock t2_v, .cells t2_c 5 (0, 0)), (some b1, .cells (enc .u8 (List.replicate 32 0)) 23 (0, 0))]) g5 (i := 1) rfl (Wn.none rfl) rfl rfl rfl (f_callOwn rfl rfl (args_val (vs := [a0_v]) rfl) (fun w => enter32 _ w) (fun w hc => ref03_high.ok h3 w (IntRow.world hr_a0 hc))) (fun _ => rfl) ?_
  intro t2_v t2_c ho_t2
  obtain ⟨t8, h9, h10⟩ := bind_some h6
  have l_t8 := ref03_bits.len h9
  refine DL.qu 5 (.agg (enc .u64 t8)) rfl (f_callR rfl rfl (args_val (vs := [t2_v]) rfl) (fun w => enter31 _ w) (fun w hc => ref03_bits.val h9 w (IntOwn.row ho_t2 hc (i := 0) rfl))) ?_
  obtain ⟨t11, h12, h13⟩ := bind_some h10
  have l_t11 := ref02_Bytes.len l_t8 h12
  refine DL.qu 6 (.agg (enc .u8 t11)) rfl (f_call rfl rfl (args_val (vs := [.agg (enc .u64 t8)]) rfl) (fun w => enter28 _ w) (fun w => ref02_Bytes.val l_t8 h12 w)) ?_
  refine DL.put (H' := [(Value.ownBlock t2_v, .cells t2_c 5 (0, 0)), (some b1, .cells (enc .u8 t11) 23 (0, 0))]) (i := 4) rfl (Wn.none rfl) rfl rfl (f_storeA (j := 1) ty_s23 rfl (enc_sz l_t11) (enc_sz (List.length_replicate)) (enc_oneCell _ _) rfl rfl rfl) (keep_none rfl) ?_
  refine DL.nil ?_
  obtain rfl := Option.some.inj h13
  exact ret1 Try.func16 rfl (ResV.cell (j := 1) ty_a23 ty_s23 rfl rfl (enc_sz l_t11)) ⟨rfl, l_t11⟩
theorem ref03_Reduce.len {a0 : List Int} {r : List Int} (h : ref03_Reduce.f a0 = some r) : r.length = 32 := by
  obtain ⟨w, v0, hv0⟩ := row_world1 .u8 a0
  obtain ⟨v, hv⟩ := calls_fact1 (ref03_Reduce.ok h w hv0)
  exact hv.2
theorem ref03_Reduce.val {a0 : List Int} {a0_v : Value} {r : List Int} (h : ref03_Reduce.f a0 = some r) (w : World) (hr_a0 : IntRow (heapOf w) .u8 a0_v a0) : Calls Try.prog 16 #[a0_v] w fun e w' => e = .returned (.agg (enc .u8 r)) ∧ Below w.heap.size w w' :=
  calls_value ((ref03_Reduce.ok h w hr_a0).mono fun e w' ⟨v, he, hv, hb⟩ => ⟨v, he, hv.1, hb⟩)

/-! ### escutcheon/escutcheonref03.MulAdd: function 14 -/
noncomputable def B14 : Code := bodyOf Try.f14
def ref03_MulAdd.L1 (t6 : List Int) (t9 : List Int) (x11_20 : Int) : Nat → Int → List Int → Option (List Int)
  | 0, _, _ => none
  | k + 1, x12_201, y_202 => if (decide (x12_201 < 16)) = true then (req (0 ≤ (IntKind.i64.wrap (x11_20 + x12_201))) (req ((IntKind.i64.wrap (x11_20 + x12_201)) < (y_202.length : Int)) (req (0 ≤ x11_20) (req (x11_20 < 16) (req (0 ≤ x12_201) (req (x12_201 < 16) (nm (IntKind.u64.wrap ((t6.getD x11_20.toNat 0) * (t9.getD x12_201.toNat 0))) fun t293 => nm (IntKind.u64.wrap ((y_202.getD ((IntKind.i64.wrap (x11_20 + x12_201)).toNat) 0) + t293)) fun t296 => ref03_MulAdd.L1 t6 t9 x11_20 k (IntKind.i64.wrap (x12_201 + 1)) (y_202.set ((IntKind.i64.wrap (x11_20 + x12_201)).toNat) t296)))))))) else (some y_202)
set_option maxRecDepth 20000 in
theorem ref03_MulAdd.L1_ok (a0 : List Int) (a1 : List Int) (a2 : List Int) (b1 : Nat) (b2 : Nat) (b3 : Nat) (b4 : Nat) (t6 : List Int) (t9 : List Int) (t12 : List Int) (b15 : Nat) (b16 : Nat) (b17 : Nat) (x11_20 : Int) {R : Ending → World → Prop} {w0 : World} {I : Nat → Option Obj} {K : List Item} (l_t6 : t6.length = 16) (l_t9 : t9.length = 16) :
    ∀ (k : Nat) (x12_201 : Int) (y_202 : List Int) (y_202_v : Value) (y_202_c : Array Value) (r0 : List Int) (ho_y_202 : IntOwn .u64 y_202_v y_202_c y_202) (h : ref03_MulAdd.L1 t6 t9 x11_20 k x12_201 y_202 = some r0) (hk : ∀ (z_o18_276_v : Value), ∀ (z_o18_276_c : Array Value), IntOwn .u64 z_o18_276_v z_o18_276_c r0 → TT Try.prog 14 R 86 w0 I K [(6, ptr b4 0), (7, ptr b15 0), (8, ptr b16 0), (9, ptr b17 0), (10, z_o18_276_v), (11, .int .i64 x11_20)] [(Value.ownBlock z_o18_276_v, .cells z_o18_276_c 39 (0, 0)), (some b17, .cells (enc .u64 t12) 52 (0, 0)), (some b16, .cells (enc .u64 t9) 52 (0, 0)), (some b15, .cells (enc .u64 t6) 52 (0, 0)), (some b4, .cells (enc .u8 (List.replicate 32 0)) 23 (0, 0)), (some b3, .cells (enc .u8 a2) 23 (0, 0)), (some b2, .cells (enc .u8 a1) 23 (0, 0)), (some b1, .cells (enc .u8 a0) 23 (0, 0))]),
      TT Try.prog 14 R 86 w0 I (.code (sub [1, 1, 1, 0, 1, 0, 0, 1, 0, 0, 1, 1, 0, 0] B14) :: .inLoop (sub [1, 1, 1, 0, 1, 0, 0, 1, 0, 0, 1, 1, 0, 0] B14) :: .inBlock 2 :: K) [(6, ptr b4 0), (7, ptr b15 0), (8, ptr b16 0), (9, ptr b17 0), (10, y_202_v), (11, .int .i64 x11_20), (12, .int .i64 x12_201)] [(Value.ownBlock y_202_v, .cells y_202_c 39 (0, 0)), (some b17, .cells (enc .u64 t12) 52 (0, 0)), (some b16, .cells (enc .u64 t9) 52 (0, 0)), (some b15, .cells (enc .u64 t6) 52 (0, 0)), (some b4, .cells (enc .u8 (List.replicate 32 0)) 23 (0, 0)), (some b3, .cells (enc .u8 a2) 23 (0, 0)), (some b2, .cells (enc .u8 a1) 23 (0, 0)), (some b1, .cells (enc .u8 a0) 23 (0, 0))] := by
  intro k
  induction k with
  | zero => intro x12_201 y_202 y_202_v y_202_c r0 ho_y_202 h; simp [ref03_MulAdd.L1] at h
  | succ k ih =>
    intro x12_201 y_202 y_202_v y_202_c r0 ho_y_202 h hk
    unfold ref03_MulAdd.L1 at h
    refine TT.seq (x := sub [1, 1, 1, 0, 1, 0, 0, 1, 0, 0, 1, 1, 0, 0, 0] B14) (y := sub [1, 1, 1, 0, 1, 0, 0, 1, 0, 0, 1, 1, 0, 0, 1] B14) ?_
    refine TT.seq (x := sub [1, 1, 1, 0, 1, 0, 0, 1, 0, 0, 1, 1, 0, 0, 0, 0] B14) (y := sub [1, 1, 1, 0, 1, 0, 0, 1, 0, 0, 1, 1, 0, 0, 0, 1] B14) ?_
    refine TT.region (id := 8) (n := 2) (ops := (opsOf (sub [1, 1, 1, 0, 1, 0, 0, 1, 0, 0, 1, 1, 0, 0, 0, 0] B14))) [(.pure, none), (.pure, none)] rfl ?_
    show DL _ _ _ _ _ _ _ _ _ _ [0, 1] _ _
    refine DL.pu 39 (.int .i64 x12_201) rfl (p_move rfl rfl) ?_
    refine DL.pu 40 (.bool (decide (x12_201 < 16))) rfl (p_lss rfl rfl rfl) ?_
    refine DL.nil ?_
    by_cases c277 : (decide (x12_201 < 16)) = true
    · have h278 := ite_true c277 h
      refine TT.cond_true (x := sub [1, 1, 1, 0, 1, 0, 0, 1, 0, 0, 1, 1, 0, 0, 0, 1, 0] B14) (y := sub [1, 1, 1, 0, 1, 0, 0, 1, 0, 0, 1, 1, 0, 0, 0, 1, 1] B14) rfl c277 ?_
      refine TT.skip ?_
      refine TT.seq (x := sub [1, 1, 1, 0, 1, 0, 0, 1, 0, 0, 1, 1, 0, 0, 1, 0] B14) (y := sub [1, 1, 1, 0, 1, 0, 0, 1, 0, 0, 1, 1, 0, 0, 1, 1] B14) ?_
      refine TT.block (c := sub [1, 1, 1, 0, 1, 0, 0, 1, 0, 0, 1, 1, 0, 0, 1, 0, 0] B14) ?_
      refine TT.regionD (id := 10) (ops := (opsOf (sub [1, 1, 1, 0, 1, 0, 0, 1, 0, 0, 1, 1, 0, 0, 1, 0, 0] B14))) [0, 1, 2, 3, 4, 5, 6, 7, 8, 9, 10, 11, 12, 13, 14, 15, 16, 17, 18, 19] [0, 0, 0, 6, 0, 0, 0, 96, 240, 496, 0, 1024, 3072, 0, 8192, 24576, 64512, 131056, 262143, 524287] [(.pure, none), (.pure, none), (.pure, none), (.pure, none), (.pure, none), (.pure, none), (.pure, none), (.pure, none), (.pure, none), (.quiet, none), (.pure, none), (.pure, none), (.look, some 3), (.pure, none), (.pure, none), (.look, some 2), (.pure, none), (.pure, none), (.pure, none), (.store, none)] mixed (by kernel_rfl) ?_
      intro w279 hl279 hj279 hz279
      refine DL.pu 43 (y_202_v) rfl (p_move rfl rfl) ?_
      refine DL.pu 44 (.int .i64 x11_20) rfl (p_move rfl rfl) ?_
      refine DL.pu 45 (.int .i64 x12_201) rfl (p_move rfl rfl) ?_
      refine DL.pu 46 (.int .i64 (IntKind.i64.wrap (x11_20 + x12_201))) rfl (p_add rfl rfl rfl) ?_
      refine DL.pu 47 (y_202_v) rfl (p_move rfl rfl) ?_
      refine DL.pu 48 (.int .i64 x11_20) rfl (p_move rfl rfl) ?_
      refine DL.pu 49 (.int .i64 x12_201) rfl (p_move rfl rfl) ?_
      refine DL.pu 50 (.int .i64 (IntKind.i64.wrap (x11_20 + x12_201))) rfl (p_add rfl rfl rfl) ?_
      obtain ⟨g280, h281⟩ := req_some h278
      obtain ⟨g282, h283⟩ := req_some h281
      refine DL.pu 51 (elp y_202_v ((IntKind.i64.wrap (x11_20 + x12_201)).toNat)) rfl (p_slIx1 ty_u55 ty_s39 (OwnV.some ho_y_202 g280 g282) g280 g282 rfl rfl rfl) ?_
      refine DL.qu 52 (.int .u64 (y_202.getD ((IntKind.i64.wrap (x11_20 + x12_201)).toNat) 0)) rfl (f_loadEl (i := 0) rfl ho_y_202 (encl_get .u64 (lt_len g280 g282)) ty_a39 rfl rfl) ?_
      refine DL.pu 53 (.int .i64 x11_20) rfl (p_move rfl rfl) ?_
      obtain ⟨g285, h286⟩ := req_some h283
      obtain ⟨g287, h288⟩ := req_some h286
      refine DL.pu 54 (ptr b15 x11_20.toNat) rfl (p_ix ty_u52 ty_s39 g285 g287 rfl rfl rfl) ?_
      refine DL.look (v := .int .u64 (t6.getD x11_20.toNat 0)) (x := 3) (b := b15) (i := 12) rfl (Wn.none rfl) rfl rfl rfl rfl rfl (List.mem_of_getElem? (i := 3) rfl) (b_load ty_a39 (enc_at l_t6 g285 g287) rfl rfl) ?_
      refine DL.pu 56 (.int .i64 x12_201) rfl (p_move rfl rfl) ?_
      obtain ⟨g289, h290⟩ := req_some h288
      obtain ⟨g291, h292⟩ := req_some h290
      refine DL.pu 57 (ptr b16 x12_201.toNat) rfl (p_ix ty_u52 ty_s39 g289 g291 rfl rfl rfl) ?_
      refine DL.look (v := .int .u64 (t9.getD x12_201.toNat 0)) (x := 2) (b := b16) (i := 15) rfl (Wn.none rfl) rfl rfl rfl rfl rfl (List.mem_of_getElem? (i := 2) rfl) (b_load ty_a39 (enc_at l_t9 g289 g291) rfl rfl) ?_
      obtain ⟨t293, e294, h295⟩ := nm_some h292
      refine DL.pu 59 (.int .u64 t293) rfl (by rw [e294]; exact p_mul rfl rfl rfl) ?_
      obtain ⟨t296, e297, h298⟩ := nm_some h295
      refine DL.pu 60 (.int .u64 t296) rfl (by rw [e297]; exact p_add rfl rfl rfl) ?_
      refine DL.pu 61 (elp y_202_v ((IntKind.i64.wrap (x11_20 + x12_201)).toNat)) rfl (p_slIx1 ty_u55 ty_s39 (OwnV.some ho_y_202 g280 g282) g280 g282 rfl rfl rfl) ?_
      refine DL.put (H' := [(Value.ownBlock y_202_v, .cells (y_202_c.setIfInBounds ((IntKind.i64.wrap (x11_20 + x12_201)).toNat) (.int .u64 t296)) 39 (0, 0)), (some b17, .cells (enc .u64 t12) 52 (0, 0)), (some b16, .cells (enc .u64 t9) 52 (0, 0)), (some b15, .cells (enc .u64 t6) 52 (0, 0)), (some b4, .cells (enc .u8 (List.replicate 32 0)) 23 (0, 0)), (some b3, .cells (enc .u8 a2) 23 (0, 0)), (some b2, .cells (enc .u8 a1) 23 (0, 0)), (some b1, .cells (enc .u8 a0) 23 (0, 0))]) (i := 19) rfl (Wn.none rfl) rfl rfl (f_storeEl (i := 0) ty_s39 rfl ho_y_202 (lt_len1 g280 g282) rfl trivial rfl rfl rfl) (keep_none rfl) ?_
      refine DL.nil' hl279 ?_
      refine TT.inBlock ?_
      refine TT.region (id := 9) (n := 3) (ops := (opsOf (sub [1, 1, 1, 0, 1, 0, 0, 1, 0, 0, 1, 1, 0, 0, 1, 1] B14))) [(.pure, none), (.pure, none), (.pure, none)] rfl ?_
      show DL _ _ _ _ _ _ _ _ _ _ [0, 1, 2] _ _
      refine DL.pu 41 (.int .i64 x12_201) rfl (p_move rfl rfl) ?_
      refine DL.pu 42 (.int .i64 (IntKind.i64.wrap (x12_201 + 1))) rfl (p_add rfl rfl rfl) ?_
      refine DL.pu 12 (.int .i64 (IntKind.i64.wrap (x12_201 + 1))) rfl (p_assign rfl rfl) ?_
      refine DL.nil ?_
      refine TT.inLoop ?_
      exact TT.weak (ih (IntKind.i64.wrap (x12_201 + 1)) (y_202.set ((IntKind.i64.wrap (x11_20 + x12_201)).toNat) t296) y_202_v (y_202_c.setIfInBounds ((IntKind.i64.wrap (x11_20 + x12_201)).toNat) (.int .u64 t296)) r0 (IntOwn.set ho_y_202 (lt_len g280 g282) t296) h298 hk) (Sub.cons rfl (Sub.cons rfl (Sub.cons rfl (Sub.cons rfl (Sub.cons rfl (Sub.cons rfl (Sub.cons rfl (Sub.nil _))))))))
    · replace c277 := Bool.eq_false_iff.mpr c277
      have h299 := ite_false c277 h
      refine TT.cond_false (x := sub [1, 1, 1, 0, 1, 0, 0, 1, 0, 0, 1, 1, 0, 0, 0, 1, 0] B14) (y := sub [1, 1, 1, 0, 1, 0, 0, 1, 0, 0, 1, 1, 0, 0, 0, 1, 1] B14) rfl c277 ?_
      refine TT.exit rfl ?_
      obtain rfl := Option.some.inj h299
      exact TT.weak (hk y_202_v y_202_c ho_y_202) (Sub.cons rfl (Sub.cons rfl (Sub.cons rfl (Sub.cons rfl (Sub.cons rfl (Sub.cons rfl (Sub.nil _)))))))

def ref03_MulAdd.L0 (t6 : List Int) (t9 : List Int) (t12 : List Int) : Nat → Int → List Int → Option (List Int)
  | 0, _, _ => none
  | k + 1, x11_20, y_21 => if (decide (x11_20 < 16)) = true then (req (0 ≤ x11_20) (req (x11_20 < (y_21.length : Int)) (req (x11_20 < 16) (nm (IntKind.u64.wrap ((y_21.getD x11_20.toNat 0) + (t12.getD x11_20.toNat 0))) fun t198 => (ref03_MulAdd.L1 t6 t9 x11_20 17 0 (y_21.set x11_20.toNat t198)).bind fun z_o18_276 => ref03_MulAdd.L0 t6 t9 t12 k (IntKind.i64.wrap (x11_20 + 1)) z_o18_276)))) else (some y_21)
set_option maxRecDepth 20000 in
theorem ref03_MulAdd.L0_ok (a0 : List Int) (a1 : List Int) (a2 : List Int) (b1 : Nat) (b2 : Nat) (b3 : Nat) (b4 : Nat) (t6 : List Int) (t9 : List Int) (t12 : List Int) (b15 : Nat) (b16 : Nat) (b17 : Nat) {R : Ending → World → Prop} {w0 : World} {I : Nat → Option Obj} {K : List Item} (l_t6 : t6.length = 16) (l_t9 : t9.length = 16) (l_t12 : t12.length = 16) :
    ∀ (k : Nat) (x11_20 : Int) (y_21 : List Int) (y_21_v : Value) (y_21_c : Array Value) (r0 : List Int) (ho_y_21 : IntOwn .u64 y_21_v y_21_c y_21) (h : ref03_MulAdd.L0 t6 t9 t12 k x11_20 y_21 = some r0) (hk : ∀ (z_o18_187_v : Value), ∀ (z_o18_187_c : Array Value), IntOwn .u64 z_o18_187_v z_o18_187_c r0 → TT Try.prog 14 R 86 w0 I K [(6, ptr b4 0), (10, z_o18_187_v)] [(Value.ownBlock z_o18_187_v, .cells z_o18_187_c 39 (0, 0)), (some b17, .cells (enc .u64 t12) 52 (0, 0)), (some b16, .cells (enc .u64 t9) 52 (0, 0)), (some b15, .cells (enc .u64 t6) 52 (0, 0)), (some b4, .cells (enc .u8 (List.replicate 32 0)) 23 (0, 0)), (some b3, .cells (enc .u8 a2) 23 (0, 0)), (some b2, .cells (enc .u8 a1) 23 (0, 0)), (some b1, .cells (enc .u8 a0) 23 (0, 0))]),
      TT Try.prog 14 R 86 w0 I (.code (sub [1, 1, 1, 0, 1, 0, 0] B14) :: .inLoop (sub [1, 1, 1, 0, 1, 0, 0] B14) :: .inBlock 0 :: K) [(6, ptr b4 0), (7, ptr b15 0), (8, ptr b16 0), (9, ptr b17 0), (10, y_21_v), (11, .int .i64 x11_20)] [(Value.ownBlock y_21_v, .cells y_21_c 39 (0, 0)), (some b17, .cells (enc .u64 t12) 52 (0, 0)), (some b16, .cells (enc .u64 t9) 52 (0, 0)), (some b15, .cells (enc .u64 t6) 52 (0, 0)), (some b4, .cells (enc .u8 (List.replicate 32 0)) 23 (0, 0)), (some b3, .cells (enc .u8 a2) 23 (0, 0)), (some b2, .cells (enc .u8 a1) 23 (0, 0)), (some b1, .cells (enc .u8 a0) 23 (0, 0))] := by
  intro k
  induction k with
  | zero => intro x11_20 y_21 y_21_v y_21_c r0 ho_y_21 h; simp [ref03_MulAdd.L0] at h
  | succ k ih =>
    intro x11_20 y_21 y_21_v y_21_c r0 ho_y_21 h hk
    unfold ref03_MulAdd.L0 at h
    refine TT.seq (x := sub [1, 1, 1, 0, 1, 0, 0, 0] B14) (y := sub [1, 1, 1, 0, 1, 0, 0, 1] B14) ?_
    refine TT.seq (x := sub [1, 1, 1, 0, 1, 0, 0, 0, 0] B14) (y := sub [1, 1, 1, 0, 1, 0, 0, 0, 1] B14) ?_
    refine TT.region (id := 4) (n := 2) (ops := (opsOf (sub [1, 1, 1, 0, 1, 0, 0, 0, 0] B14))) [(.pure, none), (.pure, none)] rfl ?_
    show DL _ _ _ _ _ _ _ _ _ _ [0, 1] _ _
    refine DL.pu 24 (.int .i64 x11_20) rfl (p_move rfl rfl) ?_
    refine DL.pu 25 (.bool (decide (x11_20 < 16))) rfl (p_lss rfl rfl rfl) ?_
    refine DL.nil ?_
    by_cases c188 : (decide (x11_20 < 16)) = true
    · have h189 := ite_true c188 h
      refine TT.cond_true (x := sub [1, 1, 1, 0, 1, 0, 0, 0, 1, 0] B14) (y := sub [1, 1, 1, 0, 1, 0, 0, 0, 1, 1] B14) rfl c188 ?_
      refine TT.skip ?_
      refine TT.seq (x := sub [1, 1, 1, 0, 1, 0, 0, 1, 0] B14) (y := sub [1, 1, 1, 0, 1, 0, 0, 1, 1] B14) ?_
      refine TT.block (c := sub [1, 1, 1, 0, 1, 0, 0, 1, 0, 0] B14) ?_
      refine TT.seq (x := sub [1, 1, 1, 0, 1, 0, 0, 1, 0, 0, 0] B14) (y := sub [1, 1, 1, 0, 1, 0, 0, 1, 0, 0, 1] B14) ?_
      refine TT.regionD (id := 6) (ops := (opsOf (sub [1, 1, 1, 0, 1, 0, 0, 1, 0, 0, 0] B14))) [0, 1, 2, 3, 4, 5, 6, 7, 8, 9, 10, 11] [0, 0, 0, 0, 12, 28, 0, 64, 192, 508, 1023, 2047] [(.pure, none), (.pure, none), (.pure, none), (.pure, none), (.pure, none), (.quiet, none), (.pure, none), (.pure, none), (.look, some 1), (.pure, none), (.pure, none), (.store, none)] mixed (by kernel_rfl) ?_
      intro w190 hl190 hj190 hz190
      refine DL.pu 28 (y_21_v) rfl (p_move rfl rfl) ?_
      refine DL.pu 29 (.int .i64 x11_20) rfl (p_move rfl rfl) ?_
      refine DL.pu 30 (y_21_v) rfl (p_move rfl rfl) ?_
      refine DL.pu 31 (.int .i64 x11_20) rfl (p_move rfl rfl) ?_
      obtain ⟨g191, h192⟩ := req_some h189
      obtain ⟨g193, h194⟩ := req_some h192
      refine DL.pu 32 (elp y_21_v x11_20.toNat) rfl (p_slIx1 ty_u55 ty_s39 (OwnV.some ho_y_21 g191 g193) g191 g193 rfl rfl rfl) ?_
      refine DL.qu 33 (.int .u64 (y_21.getD x11_20.toNat 0)) rfl (f_loadEl (i := 0) rfl ho_y_21 (encl_get .u64 (lt_len g191 g193)) ty_a39 rfl rfl) ?_
      refine DL.pu 34 (.int .i64 x11_20) rfl (p_move rfl rfl) ?_
      obtain ⟨g196, h197⟩ := req_some h194
      refine DL.pu 35 (ptr b17 x11_20.toNat) rfl (p_ix ty_u52 ty_s39 g191 g196 rfl rfl rfl) ?_
      refine DL.look (v := .int .u64 (t12.getD x11_20.toNat 0)) (x := 1) (b := b17) (i := 8) rfl (Wn.none rfl) rfl rfl rfl rfl rfl (List.mem_of_getElem? (i := 1) rfl) (b_load ty_a39 (enc_at l_t12 g191 g196) rfl rfl) ?_
      obtain ⟨t198, e199, h200⟩ := nm_some h197
      refine DL.pu 37 (.int .u64 t198) rfl (by rw [e199]; exact p_add rfl rfl rfl) ?_
      refine DL.pu 38 (elp y_21_v x11_20.toNat) rfl (p_slIx1 ty_u55 ty_s39 (OwnV.some ho_y_21 g191 g193) g191 g193 rfl rfl rfl) ?_
      refine DL.put (H' := [(Value.ownBlock y_21_v, .cells (y_21_c.setIfInBounds x11_20.toNat (.int .u64 t198)) 39 (0, 0)), (some b17, .cells (enc .u64 t12) 52 (0, 0)), (some b16, .cells (enc .u64 t9) 52 (0, 0)), (some b15, .cells (enc .u64 t6) 52 (0, 0)), (some b4, .cells (enc .u8 (List.replicate 32 0)) 23 (0, 0)), (some b3, .cells (enc .u8 a2) 23 (0, 0)), (some b2, .cells (enc .u8 a1) 23 (0, 0)), (some b1, .cells (enc .u8 a0) 23 (0, 0))]) (i := 11) rfl (Wn.none rfl) rfl rfl (f_storeEl (i := 0) ty_s39 rfl ho_y_21 (lt_len1 g191 g193) rfl trivial rfl rfl rfl) (keep_none rfl) ?_
      refine DL.nil' hl190 ?_
      refine TT.seq (x := sub [1, 1, 1, 0, 1, 0, 0, 1, 0, 0, 1, 0] B14) (y := sub [1, 1, 1, 0, 1, 0, 0, 1, 0, 0, 1, 1] B14) ?_
      refine TT.region (id := 7) (n := 1) (ops := (opsOf (sub [1, 1, 1, 0, 1, 0, 0, 1, 0, 0, 1, 0] B14))) [(.pure, none)] rfl ?_
      show DL _ _ _ _ _ _ _ _ _ _ [0] _ _
      refine DL.pu 12 (.int .i64 0) rfl (p_assign rfl rfl) ?_
      refine DL.nil ?_
      refine TT.block (c := sub [1, 1, 1, 0, 1, 0, 0, 1, 0, 0, 1, 1, 0] B14) ?_
      refine TT.loop (c := sub [1, 1, 1, 0, 1, 0, 0, 1, 0, 0, 1, 1, 0, 0] B14) ?_
      obtain ⟨z_o18_276, h300, h301⟩ := bind_some h200
      refine TT.weak (ref03_MulAdd.L1_ok a0 a1 a2 b1 b2 b3 b4 t6 t9 t12 b15 b16 b17 x11_20 l_t6 l_t9 17 0 (y_21.set x11_20.toNat t198) y_21_v (y_21_c.setIfInBounds x11_20.toNat (.int .u64 t198)) z_o18_276 (IntOwn.set ho_y_21 (lt_len g191 g193) t198) h300 (fun z_o18_276_v z_o18_276_c ho_z_o18_276 => ?_)) (Sub.cons rfl (Sub.cons rfl (Sub.cons rfl (Sub.cons rfl (Sub.cons rfl (Sub.cons rfl (Sub.cons rfl (Sub.nil _))))))))
      refine TT.inBlock ?_
      refine TT.region (id := 5) (n := 3) (ops := (opsOf (sub [1, 1, 1, 0, 1, 0, 0, 1, 1] B14))) [(.pure, none), (.pure, none), (.pure, none)] rfl ?_
      show DL _ _ _ _ _ _ _ _ _ _ [0, 1, 2] _ _
      refine DL.pu 26 (.int .i64 x11_20) rfl (p_move rfl rfl) ?_
      refine DL.pu 27 (.int .i64 (IntKind.i64.wrap (x11_20 + 1))) rfl (p_add rfl rfl rfl) ?_
      refine DL.pu 11 (.int .i64 (IntKind.i64.wrap (x11_20 + 1))) rfl (p_assign rfl rfl) ?_
      refine DL.nil ?_
      refine TT.inLoop ?_
      exact TT.weak (ih (IntKind.i64.wrap (x11_20 + 1)) z_o18_276 z_o18_276_v z_o18_276_c r0 ho_z_o18_276 h301 hk) (Sub.cons rfl (Sub.cons rfl (Sub.cons rfl (Sub.cons rfl (Sub.cons rfl (Sub.cons rfl (Sub.nil _)))))))
    · replace c188 := Bool.eq_false_iff.mpr c188
      have h302 := ite_false c188 h
      refine TT.cond_false (x := sub [1, 1, 1, 0, 1, 0, 0, 0, 1, 0] B14) (y := sub [1, 1, 1, 0, 1, 0, 0, 0, 1, 1] B14) rfl c188 ?_
      refine TT.exit rfl ?_
      obtain rfl := Option.some.inj h302
      exact TT.weak (hk y_21_v y_21_c ho_y_21) (Sub.cons rfl (Sub.cons rfl (Sub.nil _)))

def ref03_MulAdd.L2 (z_o18_187 : List Int) : Nat → Int → Int → List Int → Option (List Int)
  | 0, _, _, _ => none
  | k + 1, x14_306, x15_307, y_308 => if (decide (x15_307 < (z_o18_187.length : Int))) = true then (req (0 ≤ x15_307) (req (x15_307 < (z_o18_187.length : Int)) (nm (IntKind.u64.wrap ((z_o18_187.getD x15_307.toNat 0) + x14_306)) fun t383 => req (y_308.length + [IntKind.u8.wrap t383, IntKind.u8.wrap (ishr .u64 t383 8)].length ≤ 1099511627776) (ref03_MulAdd.L2 z_o18_187 k (ishr .u64 t383 16) (IntKind.i64.wrap (x15_307 + 1)) (y_308 ++ [IntKind.u8.wrap t383, IntKind.u8.wrap (ishr .u64 t383 8)]))))) else (some y_308)
set_option maxRecDepth 20000 in
theorem ref03_MulAdd.L2_ok (a0 : List Int) (a1 : List Int) (a2 : List Int) (b1 : Nat) (b2 : Nat) (b3 : Nat) (b4 : Nat) (t6 : List Int) (t9 : List Int) (t12 : List Int) (b15 : Nat) (b16 : Nat) (b17 : Nat) (z_o18_187 : List Int) (z_o18_187_v : Value) (z_o18_187_c : Array Value) {R : Ending → World → Prop} {w0 : World} {I : Nat → Option Obj} {K : List Item} (ho_z_o18_187 : IntOwn .u64 z_o18_187_v z_o18_187_c z_o18_187) :
    ∀ (k : Nat) (x14_306 : Int) (x15_307 : Int) (y_308 : List Int) (y_308_v : Value) (y_308_c : Array Value) (r0 : List Int) (ho_y_308 : IntOwn .u8 y_308_v y_308_c y_308) (h : ref03_MulAdd.L2 z_o18_187 k x14_306 x15_307 y_308 = some r0) (hk : ∀ (z_o305_375_v : Value), ∀ (z_o305_375_c : Array Value), IntOwn .u8 z_o305_375_v z_o305_375_c r0 → TT Try.prog 14 R 86 w0 I K [(6, ptr b4 0), (13, z_o305_375_v)] [(Value.ownBlock z_o305_375_v, .cells z_o305_375_c 5 (0, 0)), (Value.ownBlock z_o18_187_v, .cells z_o18_187_c 39 (0, 0)), (some b17, .cells (enc .u64 t12) 52 (0, 0)), (some b16, .cells (enc .u64 t9) 52 (0, 0)), (some b15, .cells (enc .u64 t6) 52 (0, 0)), (some b4, .cells (enc .u8 (List.replicate 32 0)) 23 (0, 0)), (some b3, .cells (enc .u8 a2) 23 (0, 0)), (some b2, .cells (enc .u8 a1) 23 (0, 0)), (some b1, .cells (enc .u8 a0) 23 (0, 0))]),
      TT Try.prog 14 R 86 w0 I (.code (sub [1, 1, 1, 1, 1, 1, 0, 1, 0, 0] B14) :: .inLoop (sub [1, 1, 1, 1, 1, 1, 0, 1, 0, 0] B14) :: .inBlock 4 :: K) [(6, ptr b4 0), (10, z_o18_187_v), (13, y_308_v), (14, .int .u64 x14_306), (15, .int .i64 x15_307)] [(Value.ownBlock y_308_v, .cells y_308_c 5 (0, 0)), (Value.ownBlock z_o18_187_v, .cells z_o18_187_c 39 (0, 0)), (some b17, .cells (enc .u64 t12) 52 (0, 0)), (some b16, .cells (enc .u64 t9) 52 (0, 0)), (some b15, .cells (enc .u64 t6) 52 (0, 0)), (some b4, .cells (enc .u8 (List.replicate 32 0)) 23 (0, 0)), (some b3, .cells (enc .u8 a2) 23 (0, 0)), (some b2, .cells (enc .u8 a1) 23 (0, 0)), (some b1, .cells (enc .u8 a0) 23 (0, 0))] := by
  intro k
  induction k with
  | zero => intro x14_306 x15_307 y_308 y_308_v y_308_c r0 ho_y_308 h; simp [ref03_MulAdd.L2] at h
  | succ k ih =>
    intro x14_306 x15_307 y_308 y_308_v y_308_c r0 ho_y_308 h hk
    unfold ref03_MulAdd.L2 at h
    refine TT.seq (x := sub [1, 1, 1, 1, 1, 1, 0, 1, 0, 0, 0] B14) (y := sub [1, 1, 1, 1, 1, 1, 0, 1, 0, 0, 1] B14) ?_
    refine TT.seq (x := sub [1, 1, 1, 1, 1, 1, 0, 1, 0, 0, 0, 0] B14) (y := sub [1, 1, 1, 1, 1, 1, 0, 1, 0, 0, 0, 1] B14) ?_
    refine TT.region (id := 14) (n := 4) (ops := (opsOf (sub [1, 1, 1, 1, 1, 1, 0, 1, 0, 0, 0, 0] B14))) [(.pure, none), (.pure, none), (.pure, none), (.pure, none)] rfl ?_
    show DL _ _ _ _ _ _ _ _ _ _ [0, 1, 2, 3] _ _
    refine DL.pu 62 (.int .i64 x15_307) rfl (p_move rfl rfl) ?_
    refine DL.pu 63 (z_o18_187_v) rfl (p_move rfl rfl) ?_
    refine DL.pu 64 (.int .i64 (z_o18_187.length : Int)) rfl (p_slLen ty_u55 (OwnV.sl ho_z_o18_187) rfl rfl) ?_
    refine DL.pu 65 (.bool (decide (x15_307 < (z_o18_187.length : Int)))) rfl (p_lss rfl rfl rfl) ?_
    refine DL.nil ?_
    by_cases c376 : (decide (x15_307 < (z_o18_187.length : Int))) = true
    · have h377 := ite_true c376 h
      refine TT.cond_true (x := sub [1, 1, 1, 1, 1, 1, 0, 1, 0, 0, 0, 1, 0] B14) (y := sub [1, 1, 1, 1, 1, 1, 0, 1, 0, 0, 0, 1, 1] B14) rfl c376 ?_
      refine TT.skip ?_
      refine TT.seq (x := sub [1, 1, 1, 1, 1, 1, 0, 1, 0, 0, 1, 0] B14) (y := sub [1, 1, 1, 1, 1, 1, 0, 1, 0, 0, 1, 1] B14) ?_
      refine TT.block (c := sub [1, 1, 1, 1, 1, 1, 0, 1, 0, 0, 1, 0, 0] B14) ?_
      refine TT.seq (x := sub [1, 1, 1, 1, 1, 1, 0, 1, 0, 0, 1, 0, 0, 0] B14) (y := sub [1, 1, 1, 1, 1, 1, 0, 1, 0, 0, 1, 0, 0, 1] B14) ?_
      refine TT.region (id := 16) (n := 7) (ops := (opsOf (sub [1, 1, 1, 1, 1, 1, 0, 1, 0, 0, 1, 0, 0, 0] B14))) [(.pure, none), (.pure, none), (.pure, none), (.quiet, none), (.pure, none), (.pure, none), (.pure, none)] rfl ?_
      show DL _ _ _ _ _ _ _ _ _ _ [0, 1, 2, 3, 4, 5, 6] _ _
      refine DL.pu 68 (z_o18_187_v) rfl (p_move rfl rfl) ?_
      refine DL.pu 69 (.int .i64 x15_307) rfl (p_move rfl rfl) ?_
      obtain ⟨g378, h379⟩ := req_some h377
      obtain ⟨g380, h381⟩ := req_some h379
      refine DL.pu 70 (elp z_o18_187_v x15_307.toNat) rfl (p_slIx1 ty_u55 ty_s39 (OwnV.some ho_z_o18_187 g378 g380) g378 g380 rfl rfl rfl) ?_
      refine DL.qu 71 (.int .u64 (z_o18_187.getD x15_307.toNat 0)) rfl (f_loadEl (i := 1) rfl ho_z_o18_187 (encl_get .u64 (lt_len g378 g380)) ty_a39 rfl rfl) ?_
      refine DL.pu 72 (.int .u64 x14_306) rfl (p_move rfl rfl) ?_
      obtain ⟨t383, e384, h385⟩ := nm_some h381
      refine DL.pu 73 (.int .u64 t383) rfl (by rw [e384]; exact p_add rfl rfl rfl) ?_
      refine DL.pu 16 (.int .u64 t383) rfl (p_assign rfl rfl) ?_
      refine DL.nil ?_
      refine TT.seq (x := sub [1, 1, 1, 1, 1, 1, 0, 1, 0, 0, 1, 0, 0, 1, 0] B14) (y := sub [1, 1, 1, 1, 1, 1, 0, 1, 0, 0, 1, 0, 0, 1, 1] B14) ?_
      refine TT.region (id := 17) (n := 9) (ops := (opsOf (sub [1, 1, 1, 1, 1, 1, 0, 1, 0, 0, 1, 0, 0, 1, 0] B14))) [(.pure, none), (.pure, none), (.pure, none), (.pure, none), (.pure, none), (.pure, none), (.alloc, none), (.act, none), (.pure, none)] rfl ?_
      show DL _ _ _ _ _ _ _ _ _ _ [0, 1, 2, 3, 4, 5, 6, 7, 8] _ _
      refine DL.pu 74 (y_308_v) rfl (p_move rfl rfl) ?_
      refine DL.pu 75 (.int .u64 t383) rfl (p_move rfl rfl) ?_
      refine DL.pu 76 (.int .u8 (IntKind.u8.wrap t383)) rfl (p_conv ty_u39 ty_u5 ⟨_, rfl⟩ rfl rfl) ?_
      refine DL.pu 77 (.int .u64 t383) rfl (p_move rfl rfl) ?_
      refine DL.pu 78 (.int .u64 (ishr .u64 t383 8)) rfl (p_shr (by decide) rfl rfl rfl) ?_
      refine DL.pu 79 (.int .u8 (IntKind.u8.wrap (ishr .u64 t383 8))) rfl (p_conv ty_u39 ty_u5 ⟨_, rfl⟩ rfl rfl) ?_
      refine DL.newSl (zs := [IntKind.u8.wrap t383, IntKind.u8.wrap (ishr .u64 t383 8)]) (n := 2) rfl (by decide) (i := 6) rfl (Wn.none rfl) rfl rfl rfl (f_buildSl (n := 2) (zs := [IntKind.u8.wrap t383, IntKind.u8.wrap (ishr .u64 t383 8)]) (vs := [(0, .int .u8 (IntKind.u8.wrap t383)), (1, .int .u8 (IntKind.u8.wrap (ishr .u64 t383 8)))]) elem37 rfl rfl (by kernel_rfl) rfl (args_val2 rfl)) ?_
      intro s387_v s387_c ho_s387
      obtain ⟨g388, h389⟩ := req_some h385
      refine DL.own (zs := y_308 ++ [IntKind.u8.wrap t383, IntKind.u8.wrap (ishr .u64 t383 8)]) (H' := fun s390_v s390_c => [(Value.ownBlock s387_v, .cells s387_c 5 (0, 0)), (Value.ownBlock s390_v, .cells s390_c 5 (0, 0)), (Value.ownBlock z_o18_187_v, .cells z_o18_187_c 39 (0, 0)), (some b17, .cells (enc .u64 t12) 52 (0, 0)), (some b16, .cells (enc .u64 t9) 52 (0, 0)), (some b15, .cells (enc .u64 t6) 52 (0, 0)), (some b4, .cells (enc .u8 (List.replicate 32 0)) 23 (0, 0)), (some b3, .cells (enc .u8 a2) 23 (0, 0)), (some b2, .cells (enc .u8 a1) 23 (0, 0)), (some b1, .cells (enc .u8 a0) 23 (0, 0))]) (len_app g388) (i := 7) rfl (Wn.none rfl) rfl rfl rfl (f_appendInt (j := 1) elem37 rfl ho_y_308 g388 (by decide) (fun w hc => IntOwn.src (i := 0) ho_s387 hc rfl) rfl rfl rfl) (fun _ => rfl) ?_
      intro s390_v s390_c ho_s390
      refine DL.pu 13 (s390_v) rfl (p_assign rfl rfl) ?_
      refine DL.nil ?_
      refine TT.region (id := 18) (n := 3) (ops := (opsOf (sub [1, 1, 1, 1, 1, 1, 0, 1, 0, 0, 1, 0, 0, 1, 1] B14))) [(.pure, none), (.pure, none), (.pure, none)] rfl ?_
      show DL _ _ _ _ _ _ _ _ _ _ [0, 1, 2] _ _
      refine DL.pu 82 (.int .u64 t383) rfl (p_move rfl rfl) ?_
      refine DL.pu 83 (.int .u64 (ishr .u64 t383 16)) rfl (p_shr (by decide) rfl rfl rfl) ?_
      refine DL.pu 14 (.int .u64 (ishr .u64 t383 16)) rfl (p_assign rfl rfl) ?_
      refine DL.nil ?_
      refine TT.inBlock ?_
      refine TT.region (id := 15) (n := 3) (ops := (opsOf (sub [1, 1, 1, 1, 1, 1, 0, 1, 0, 0, 1, 1] B14))) [(.pure, none), (.pure, none), (.pure, none)] rfl ?_
      show DL _ _ _ _ _ _ _ _ _ _ [0, 1, 2] _ _
      refine DL.pu 66 (.int .i64 x15_307) rfl (p_move rfl rfl) ?_
      refine DL.pu 67 (.int .i64 (IntKind.i64.wrap (x15_307 + 1))) rfl (p_add rfl rfl rfl) ?_
      refine DL.pu 15 (.int .i64 (IntKind.i64.wrap (x15_307 + 1))) rfl (p_assign rfl rfl) ?_
      refine DL.nil ?_
      refine TT.inLoop ?_
      exact TT.fewer (TT.weak (ih (ishr .u64 t383 16) (IntKind.i64.wrap (x15_307 + 1)) (y_308 ++ [IntKind.u8.wrap t383, IntKind.u8.wrap (ishr .u64 t383 8)]) s390_v s390_c r0 ho_s390 h389 hk) (Sub.cons rfl (Sub.cons rfl (Sub.cons rfl (Sub.cons rfl (Sub.cons rfl (Sub.nil _))))))) (by simp)
    · replace c376 := Bool.eq_false_iff.mpr c376
      have h391 := ite_false c376 h
      refine TT.cond_false (x := sub [1, 1, 1, 1, 1, 1, 0, 1, 0, 0, 0, 1, 0] B14) (y := sub [1, 1, 1, 1, 1, 1, 0, 1, 0, 0, 0, 1, 1] B14) rfl c376 ?_
      refine TT.exit rfl ?_
      obtain rfl := Option.some.inj h391
      exact TT.weak (hk y_308_v y_308_c ho_y_308) (Sub.cons rfl (Sub.cons rfl (Sub.nil _)))

def ref03_MulAdd.f (a0 : List Int) (a1 : List Int) (a2 : List Int) : Option (List Int) := (ref02_Of.f a0).bind fun t6 => (ref02_Of.f a1).bind fun t9 => (ref02_Of.f a2).bind fun t12 => (ref03_MulAdd.L0 t6 t9 t12 17 0 (List.replicate 33 0)).bind fun z_o18_187 => (ref03_MulAdd.L2 z_o18_187 34 0 0 ([] : List Int)).bind fun z_o305_375 => (ref03_Reduce.f z_o305_375).bind fun t394 => some t394
set_option maxRecDepth 20000 in
theorem ref03_MulAdd.ok {a0 : List Int} {a1 : List Int} {a2 : List Int} {r : List Int} (l_a0 : a0.length = 32) (l_a1 : a1.length = 32) (l_a2 : a2.length = 32) (h : ref03_MulAdd.f a0 a1 a2 = some r) (w : World) : Calls Try.prog 14 #[.agg (enc .u8 a0), .agg (enc .u8 a1), .agg (enc .u8 a2)] w (Post (fun u => u = .agg (enc .u8 r) ∧ r.length = 32) w) := by
  unfold ref03_MulAdd.f at h
  refine calls_of_TT (N := 86) (S := [(0, .agg (enc .u8 a0)), (1, .agg (enc .u8 a1)), (2, .agg (enc .u8 a2))]) (c := B14) Try.func14 rfl rfl rfl (by simp) ?_
  show TT _ _ _ _ _ _ [.code (sub [] B14)] _ _
  refine TT.seq (x := sub [0] B14) (y := sub [1] B14) ?_
  refine TT.region (id := 0) (n := 4) (ops := (opsOf (sub [0] B14))) [(.alloc, none), (.alloc, none), (.alloc, none), (.alloc, none)] rfl ?_
  show DL _ _ _ _ _ _ _ _ _ _ [0, 1, 2, 3] _ _
  refine DL.new (ob := .cells (enc .u8 a0) 23) (mk := fun b => ptr b 0) (i := 0) rfl (Wn.none rfl) rfl rfl rfl (f_box (v := .agg (enc .u8 a0)) rfl rfl) ?_
  intro b1 hb1
  refine DL.new (ob := .cells (enc .u8 a1) 23) (mk := fun b => ptr b 0) (i := 1) rfl (Wn.none rfl) rfl rfl rfl (f_box (v := .agg (enc .u8 a1)) rfl rfl) ?_
  intro b2 hb2
  refine DL.new (ob := .cells (enc .u8 a2) 23) (mk := fun b => ptr b 0) (i := 2) rfl (Wn.none rfl) rfl rfl rfl (f_box (v := .agg (enc .u8 a2)) rfl rfl) ?_
  intro b3 hb3
  refine DL.new (ob := .cells (enc .u8 (List.replicate 32 0)) 23) (mk := fun b => ptr b 0) (i := 3) rfl (Wn.none rfl) rfl rfl rfl (f_alloc ty_z23 rfl) ?_
  intro b4 hb4
  refine DL.nil ?_
  refine TT.seq (x := sub [1, 0] B14) (y := sub [1, 1] B14) ?_
  refine TT.regionD (id := 1) (ops := (opsOf (sub [1, 0] B14))) [0, 1, 2, 3, 4, 5, 6, 7, 8, 9, 10, 11] [0, 1, 0, 7, 0, 31, 0, 0, 0, 511, 1023, 2047] [(.look, some 3), (.quiet, none), (.look, some 2), (.quiet, none), (.look, some 1), (.quiet, none), (.alloc, none), (.alloc, none), (.alloc, none), (.store, some 106), (.store, some 107), (.store, some 108)] mixed (by kernel_rfl) ?_
  intro w5 hl5 hj5 hz5
  refine DL.look (v := .agg (enc .u8 a0)) (x := 3) (b := b1) (i := 0) rfl (Wn.none rfl) rfl rfl rfl rfl rfl (List.mem_of_getElem? (i := 3) rfl) (b_loadA ty_a23 ty_s23 (enc_sz l_a0) rfl rfl) ?_
  obtain ⟨t6, h7, h8⟩ := bind_some h
  have l_t6 := ref02_Of.len l_a0 h7
  refine DL.qu 18 (.agg (enc .u64 t6)) rfl (f_call rfl rfl (args_val (vs := [.agg (enc .u8 a0)]) rfl) (fun w => enter30 _ w) (fun w => ref02_Of.val l_a0 h7 w)) ?_
  refine DL.look (v := .agg (enc .u8 a1)) (x := 2) (b := b2) (i := 2) rfl (Wn.none rfl) rfl rfl rfl rfl rfl (List.mem_of_getElem? (i := 2) rfl) (b_loadA ty_a23 ty_s23 (enc_sz l_a1) rfl rfl) ?_
  obtain ⟨t9, h10, h11⟩ := bind_some h8
  have l_t9 := ref02_Of.len l_a1 h10
  refine DL.qu 20 (.agg (enc .u64 t9)) rfl (f_call rfl rfl (args_val (vs := [.agg (enc .u8 a1)]) rfl) (fun w => enter30 _ w) (fun w => ref02_Of.val l_a1 h10 w)) ?_
  refine DL.look (v := .agg (enc .u8 a2)) (x := 1) (b := b3) (i := 4) rfl (Wn.none rfl) rfl rfl rfl rfl rfl (List.mem_of_getElem? (i := 1) rfl) (b_loadA ty_a23 ty_s23 (enc_sz l_a2) rfl rfl) ?_
  obtain ⟨t12, h13, h14⟩ := bind_some h11
  have l_t12 := ref02_Of.len l_a2 h13
  refine DL.qu 22 (.agg (enc .u64 t12)) rfl (f_call rfl rfl (args_val (vs := [.agg (enc .u8 a2)]) rfl) (fun w => enter30 _ w) (fun w => ref02_Of.val l_a2 h13 w)) ?_
  refine DL.new (ob := .cells (enc .u64 (List.replicate 16 0)) 52) (mk := fun b => ptr b 0) (i := 6) rfl (Wn.none rfl) rfl rfl rfl (f_alloc ty_z52 rfl) ?_
  intro b15 hb15
  refine DL.new (ob := .cells (enc .u64 (List.replicate 16 0)) 52) (mk := fun b => ptr b 0) (i := 7) rfl (Wn.none rfl) rfl rfl rfl (f_alloc ty_z52 rfl) ?_
  intro b16 hb16
  refine DL.new (ob := .cells (enc .u64 (List.replicate 16 0)) 52) (mk := fun b => ptr b 0) (i := 8) rfl (Wn.none rfl) rfl rfl rfl (f_alloc ty_z52 rfl) ?_
  intro b17 hb17
  refine DL.put (H' := [(some b17, .cells (enc .u64 (List.replicate 16 0)) 52 (0, 0)), (some b16, .cells (enc .u64 (List.replicate 16 0)) 52 (0, 0)), (some b15, .cells (enc .u64 t6) 52 (0, 0)), (some b4, .cells (enc .u8 (List.replicate 32 0)) 23 (0, 0)), (some b3, .cells (enc .u8 a2) 23 (0, 0)), (some b2, .cells (enc .u8 a1) 23 (0, 0)), (some b1, .cells (enc .u8 a0) 23 (0, 0))]) (i := 9) rfl (Wn.none rfl) rfl rfl (f_storeA (j := 2) ty_s52 rfl (enc_sz l_t6) (enc_sz (List.length_replicate)) (enc_oneCell _ _) rfl rfl rfl) (keep_new (j := 2) hz5 hb15 rfl) ?_
  refine DL.put (H' := [(some b17, .cells (enc .u64 (List.replicate 16 0)) 52 (0, 0)), (some b16, .cells (enc .u64 t9) 52 (0, 0)), (some b15, .cells (enc .u64 t6) 52 (0, 0)), (some b4, .cells (enc .u8 (List.replicate 32 0)) 23 (0, 0)), (some b3, .cells (enc .u8 a2) 23 (0, 0)), (some b2, .cells (enc .u8 a1) 23 (0, 0)), (some b1, .cells (enc .u8 a0) 23 (0, 0))]) (i := 10) rfl (Wn.none rfl) rfl rfl (f_storeA (j := 1) ty_s52 rfl (enc_sz l_t9) (enc_sz (List.length_replicate)) (enc_oneCell _ _) rfl rfl rfl) (keep_new (j := 1) hz5 hb16 rfl) ?_
  refine DL.put (H' := [(some b17, .cells (enc .u64 t12) 52 (0, 0)), (some b16, .cells (enc .u64 t9) 52 (0, 0)), (some b15, .cells (enc .u64 t6) 52 (0, 0)), (some b4, .cells (enc .u8 (List.replicate 32 0)) 23 (0, 0)), (some b3, .cells (enc .u8 a2) 23 (0, 0)), (some b2, .cells (enc .u8 a1) 23 (0, 0)), (some b1, .cells (enc .u8 a0) 23 (0, 0))]) (i := 11) rfl (Wn.none rfl) rfl rfl (f_storeA (j := 0) ty_s52 rfl (enc_sz l_t12) (enc_sz (List.length_replicate)) (enc_oneCell _ _) rfl rfl rfl) (keep_new (j := 0) hz5 hb17 rfl) ?_
  refine DL.nil' hl5 ?_
  refine TT.seq (x := sub [1, 1, 0] B14) (y := sub [1, 1, 1] B14) ?_
  refine TT.region (id := 2) (n := 2) (ops := (opsOf (sub [1, 1, 0] B14))) [(.alloc, none), (.pure, none)] rfl ?_
  show DL _ _ _ _ _ _ _ _ _ _ [0, 1] _ _
  refine DL.newSl (zs := List.replicate 33 0) (n := 33) (by simp) (by decide) (i := 0) rfl (Wn.none rfl) rfl rfl rfl (f_make (n := 33) elem55 (by decide) (by decide) rfl rfl rfl) ?_
  intro s19_v s19_c ho_s19
  refine DL.pu 10 (s19_v) rfl (p_assign rfl rfl) ?_
  refine DL.nil ?_
  refine TT.seq (x := sub [1, 1, 1, 0] B14) (y := sub [1, 1, 1, 1] B14) ?_
  refine TT.seq (x := sub [1, 1, 1, 0, 0] B14) (y := sub [1, 1, 1, 0, 1] B14) ?_
  refine TT.region (id := 3) (n := 1) (ops := (opsOf (sub [1, 1, 1, 0, 0] B14))) [(.pure, none)] rfl ?_
  show DL _ _ _ _ _ _ _ _ _ _ [0] _ _
  refine DL.pu 11 (.int .i64 0) rfl (p_assign rfl rfl) ?_
  refine DL.nil ?_
  refine TT.block (c := sub [1, 1, 1, 0, 1, 0] B14) ?_
  refine TT.loop (c := sub [1, 1, 1, 0, 1, 0, 0] B14) ?_
  obtain ⟨z_o18_187, h303, h304⟩ := bind_some h14
  refine TT.weak (ref03_MulAdd.L0_ok a0 a1 a2 b1 b2 b3 b4 t6 t9 t12 b15 b16 b17 l_t6 l_t9 l_t12 17 0 (List.replicate 33 0) s19_v s19_c z_o18_187 ho_s19 h303 (fun z_o18_187_v z_o18_187_c ho_z_o18_187 => ?_)) (Sub.cons rfl (Sub.cons rfl (Sub.cons rfl (Sub.cons rfl (Sub.cons rfl (Sub.cons rfl (Sub.nil _)))))))
  refine TT.seq (x := sub [1, 1, 1, 1, 0] B14) (y := sub [1, 1, 1, 1, 1] B14) ?_
  refine TT.region (id := 11) (n := 1) (ops := (opsOf (sub [1, 1, 1, 1, 0] B14))) [(.pure, none)] rfl ?_
  show DL _ _ _ _ _ _ _ _ _ _ [0] _ _
  refine DL.pu 13 (.slice none 0 0) rfl (p_assign rfl rfl) ?_
  refine DL.nil ?_
  refine TT.seq (x := sub [1, 1, 1, 1, 1, 0] B14) (y := sub [1, 1, 1, 1, 1, 1] B14) ?_
  refine TT.region (id := 12) (n := 1) (ops := (opsOf (sub [1, 1, 1, 1, 1, 0] B14))) [(.pure, none)] rfl ?_
  show DL _ _ _ _ _ _ _ _ _ _ [0] _ _
  refine DL.pu 14 (.int .u64 0) rfl (p_assign rfl rfl) ?_
  refine DL.nil ?_
  refine TT.seq (x := sub [1, 1, 1, 1, 1, 1, 0] B14) (y := sub [1, 1, 1, 1, 1, 1, 1] B14) ?_
  refine TT.seq (x := sub [1, 1, 1, 1, 1, 1, 0, 0] B14) (y := sub [1, 1, 1, 1, 1, 1, 0, 1] B14) ?_
  refine TT.region (id := 13) (n := 1) (ops := (opsOf (sub [1, 1, 1, 1, 1, 1, 0, 0] B14))) [(.pure, none)] rfl ?_
  show DL _ _ _ _ _ _ _ _ _ _ [0] _ _
  refine DL.pu 15 (.int .i64 0) rfl (p_assign rfl rfl) ?_
  refine DL.nil ?_
  refine TT.block (c := sub [1, 1, 1, 1, 1, 1, 0, 1, 0] B14) ?_
  refine TT.nilOwn (e := 5) ?_
  refine TT.loop (c := sub [1, 1, 1, 1, 1, 1, 0, 1, 0, 0] B14) ?_
  obtain ⟨z_o305_375, h392, h393⟩ := bind_some h304
  refine TT.weak (ref03_MulAdd.L2_ok a0 a1 a2 b1 b2 b3 b4 t6 t9 t12 b15 b16 b17 z_o18_187 z_o18_187_v z_o18_187_c ho_z_o18_187 34 0 0 ([] : List Int) (.slice none 0 0) (#[]) z_o305_375 (IntOwn.nil .u8) h392 (fun z_o305_375_v z_o305_375_c ho_z_o305_375 => ?_)) (Sub.cons rfl (Sub.cons rfl (Sub.cons rfl (Sub.cons rfl (Sub.cons rfl (Sub.nil _))))))
  refine TT.seq (x := sub [1, 1, 1, 1, 1, 1, 1, 0] B14) (y := sub [1, 1, 1, 1, 1, 1, 1, 1] B14) ?_
  refine TT.region (id := 19) (n := 3) (ops := (opsOf (sub [1, 1, 1, 1, 1, 1, 1, 0] B14))) [(.pure, none), (.quiet, none), (.store, none)] rfl ?_
  show DL _ _ _ _ _ _ _ _ _ _ [0, 1, 2] _ _
  refine DL.pu 84 (z_o305_375_v) rfl (p_move rfl rfl) ?_
  obtain ⟨t394, h395, h396⟩ := bind_some h393
  have l_t394 := ref03_Reduce.len h395
  refine DL.qu 85 (.agg (enc .u8 t394)) rfl (f_callR rfl rfl (args_val (vs := [z_o305_375_v]) rfl) (fun w => enter16 _ w) (fun w hc => ref03_Reduce.val h395 w (IntOwn.row ho_z_o305_375 hc (i := 0) rfl))) ?_
  refine DL.put (H' := [(Value.ownBlock z_o305_375_v, .cells z_o305_375_c 5 (0, 0)), (Value.ownBlock z_o18_187_v, .cells z_o18_187_c 39 (0, 0)), (some b17, .cells (enc .u64 t12) 52 (0, 0)), (some b16, .cells (enc .u64 t9) 52 (0, 0)), (some b15, .cells (enc .u64 t6) 52 (0, 0)), (some b4, .cells (enc .u8 t394) 23 (0, 0)), (some b3, .cells (enc .u8 a2) 23 (0, 0)), (some b2, .cells (enc .u8 a1) 23 (0, 0)), (some b1, .cells (enc .u8 a0) 23 (0, 0))]) (i := 2) rfl (Wn.none rfl) rfl rfl (f_storeA (j := 5) ty_s23 rfl (enc_sz l_t394) (enc_sz (List.length_replicate)) (enc_oneCell _ _) rfl rfl rfl) (keep_none rfl) ?_
  refine DL.nil ?_
  obtain rfl := Option.some.inj h396
  exact ret1 Try.func14 rfl (ResV.cell (j := 5) ty_a23 ty_s23 rfl rfl (enc_sz l_t394)) ⟨rfl, l_t394⟩
theorem ref03_MulAdd.len {a0 : List Int} {a1 : List Int} {a2 : List Int} {r : List Int} (l_a0 : a0.length = 32) (l_a1 : a1.length = 32) (l_a2 : a2.length = 32) (h : ref03_MulAdd.f a0 a1 a2 = some r) : r.length = 32 := by
  obtain ⟨v, hv⟩ := calls_fact (ref03_MulAdd.ok l_a0 l_a1 l_a2 h)
  exact hv.2
theorem ref03_MulAdd.val {a0 : List Int} {a1 : List Int} {a2 : List Int} {r : List Int} (l_a0 : a0.length = 32) (l_a1 : a1.length = 32) (l_a2 : a2.length = 32) (h : ref03_MulAdd.f a0 a1 a2 = some r) (w : World) : Calls Try.prog 14 #[.agg (enc .u8 a0), .agg (enc .u8 a1), .agg (enc .u8 a2)] w fun e w' => e = .returned (.agg (enc .u8 r)) ∧ Below w.heap.size w w' :=
  calls_value ((ref03_MulAdd.ok l_a0 l_a1 l_a2 h w).mono fun e w' ⟨v, he, hv, hb⟩ => ⟨v, he, hv.1, hb⟩)

/-! ### escutcheon/escutcheonlaw03.ScalarReckons: function 6 -/
noncomputable def B6 : Code := bodyOf Try.f6
def law03_ScalarReckons.f (a0 : List Int) (a1 : List Int) (a2 : List Int) : Option (Bool) := (scalar_Neg.f a0).bind fun t5 => (scalar_MulAdd.f a0 a1 a2).bind fun t10 => (ref03_MulAdd.f a0 a1 a2).bind fun t13 => (if (t10 == t13) = true then ((scalar_Add.f a0 a1).bind fun t22 => (ref03_MulAdd.f a0 (1 :: List.replicate 31 0) a1).bind fun t25 => some (t22 == t25)) else (some false)).bind fun q16 => (if q16 = true then ((scalar_Add.f a0 t5).bind fun t35 => some (t35 == (List.replicate 32 0))) else (some false)).bind fun q29 => (if q29 = true then ((scalar_May.f t5).bind fun t45 => some t45) else (some false)).bind fun q39 => (if q39 = true then ((law03_known.f).bind fun t55 => some t55) else (some false)).bind fun q49 => some q49
set_option maxRecDepth 20000 in
theorem law03_ScalarReckons.ok {a0 : List Int} {a1 : List Int} {a2 : List Int} {r : Bool} (l_a0 : a0.length = 32) (l_a1 : a1.length = 32) (l_a2 : a2.length = 32) (h : law03_ScalarReckons.f a0 a1 a2 = some r) (w : World) : Calls Try.prog 6 #[.agg (enc .u8 a0), .agg (enc .u8 a1), .agg (enc .u8 a2)] w (Post (fun u => u = .bool r) w) := by
  unfold law03_ScalarReckons.f at h
  refine calls_of_TT (N := 45) (S := [(0, .agg (enc .u8 a0)), (1, .agg (enc .u8 a1)), (2, .agg (enc .u8 a2))]) (c := B6) Try.func6 rfl rfl rfl (by simp) ?_
  show TT _ _ _ _ _ _ [.code (sub [] B6)] _ _
  refine TT.seq (x := sub [0] B6) (y := sub [1] B6) ?_
  refine TT.region (id := 0) (n := 4) (ops := (opsOf (sub [0] B6))) [(.alloc, none), (.alloc, none), (.alloc, none), (.pure, none)] rfl ?_
  show DL _ _ _ _ _ _ _ _ _ _ [0, 1, 2, 3] _ _
  refine DL.new (ob := .cells (enc .u8 a0) 23) (mk := fun b => ptr b 0) (i := 0) rfl (Wn.none rfl) rfl rfl rfl (f_box (v := .agg (enc .u8 a0)) rfl rfl) ?_
  intro b1 hb1
  refine DL.new (ob := .cells (enc .u8 a1) 23) (mk := fun b => ptr b 0) (i := 1) rfl (Wn.none rfl) rfl rfl rfl (f_box (v := .agg (enc .u8 a1)) rfl rfl) ?_
  intro b2 hb2
  refine DL.new (ob := .cells (enc .u8 a2) 23) (mk := fun b => ptr b 0) (i := 2) rfl (Wn.none rfl) rfl rfl rfl (f_box (v := .agg (enc .u8 a2)) rfl rfl) ?_
  intro b3 hb3
  refine DL.pu 6 (.bool false) rfl (p_assign rfl rfl) ?_
  refine DL.nil ?_
  refine TT.seq (x := sub [1, 0] B6) (y := sub [1, 1] B6) ?_
  refine TT.region (id := 1) (n := 3) (ops := (opsOf (sub [1, 0] B6))) [(.pure, none), (.alloc, none), (.store, none)] rfl ?_
  show DL _ _ _ _ _ _ _ _ _ _ [0, 1, 2] _ _
  refine DL.pu 9 (.agg (enc .u8 (1 :: List.replicate 31 0))) rfl (p_build (vs := [(0, .int .u8 1)]) (fun w => by kernel_rfl) rfl rfl) ?_
  refine DL.new (ob := .cells (enc .u8 (List.replicate 32 0)) 23) (mk := fun b => ptr b 0) (i := 1) rfl (Wn.none rfl) rfl rfl rfl (f_alloc ty_z23 rfl) ?_
  intro b4 hb4
  refine DL.put (H' := [(some b4, .cells (enc .u8 (1 :: List.replicate 31 0)) 23 (0, 0)), (some b3, .cells (enc .u8 a2) 23 (0, 0)), (some b2, .cells (enc .u8 a1) 23 (0, 0)), (some b1, .cells (enc .u8 a0) 23 (0, 0))]) (i := 2) rfl (Wn.none rfl) rfl rfl (f_storeA (j := 0) ty_s23 rfl (enc_sz (by simp)) (enc_sz (List.length_replicate)) (enc_oneCell _ _) rfl rfl rfl) (keep_none rfl) ?_
  refine DL.nil ?_
  refine TT.seq (x := sub [1, 1, 0] B6) (y := sub [1, 1, 1] B6) ?_
  refine TT.region (id := 2) (n := 4) (ops := (opsOf (sub [1, 1, 0] B6))) [(.quiet, none), (.quiet, none), (.alloc, none), (.store, none)] rfl ?_
  show DL _ _ _ _ _ _ _ _ _ _ [0, 1, 2, 3] _ _
  refine DL.qu 10 (.agg (enc .u8 a0)) rfl (f_loadA (j := 3) ty_a23 ty_s23 rfl (enc_sz l_a0) rfl rfl) ?_
  obtain ⟨t5, h6, h7⟩ := bind_some h
  have l_t5 := scalar_Neg.len l_a0 h6
  refine DL.qu 11 (.agg (enc .u8 t5)) rfl (f_call rfl rfl (args_val (vs := [.agg (enc .u8 a0)]) rfl) (fun w => enter9 _ w) (fun w => scalar_Neg.val l_a0 h6 w)) ?_
  refine DL.new (ob := .cells (enc .u8 (List.replicate 32 0)) 23) (mk := fun b => ptr b 0) (i := 2) rfl (Wn.none rfl) rfl rfl rfl (f_alloc ty_z23 rfl) ?_
  intro b8 hb8
  refine DL.put (H' := [(some b8, .cells (enc .u8 t5) 23 (0, 0)), (some b4, .cells (enc .u8 (1 :: List.replicate 31 0)) 23 (0, 0)), (some b3, .cells (enc .u8 a2) 23 (0, 0)), (some b2, .cells (enc .u8 a1) 23 (0, 0)), (some b1, .cells (enc .u8 a0) 23 (0, 0))]) (i := 3) rfl (Wn.none rfl) rfl rfl (f_storeA (j := 0) ty_s23 rfl (enc_sz l_t5) (enc_sz (List.length_replicate)) (enc_oneCell _ _) rfl rfl rfl) (keep_none rfl) ?_
  refine DL.nil ?_
  refine TT.seq (x := sub [1, 1, 1, 0] B6) (y := sub [1, 1, 1, 1] B6) ?_
  refine TT.regionD (id := 3) (ops := (opsOf (sub [1, 1, 1, 0] B6))) [0, 1, 2, 3, 4, 5, 6, 7, 8, 9, 10, 11, 12, 13, 14, 15, 16, 17, 18, 19, 20, 21, 22, 23, 24, 25, 26, 27, 28, 29, 30, 31, 32, 33] [0, 0, 0, 7, 0, 0, 0, 127, 255, 511, 1023, 1023, 4095, 1023, 1023, 1023, 65535, 131071, 262143, 524287, 1048575, 1048575, 4194303, 1048575, 16777215, 33554431, 67108863, 134217727, 268435455, 536870911, 1073741823, 2147483647, 4294967295, 8589934591] [(.look, some 4), (.look, some 3), (.look, some 2), (.quiet, none), (.look, some 4), (.look, some 3), (.look, some 2), (.quiet, none), (.pure, none), (.pure, none), (.look, some 4), (.look, some 3), (.quiet, none), (.look, some 4), (.look, some 1), (.look, some 3), (.quiet, none), (.pure, none), (.pure, none), (.pure, none), (.look, some 4), (.look, some 0), (.quiet, none), (.pure, none), (.pure, none), (.pure, none), (.pure, none), (.look, some 0), (.quiet, none), (.pure, none), (.pure, none), (.quiet, none), (.pure, none), (.pure, none)] mixed (by kernel_rfl) ?_
  intro w9 hl9 hj9 hz9
  refine DL.look (v := .agg (enc .u8 a0)) (x := 4) (b := b1) (i := 0) rfl (Wn.none rfl) rfl rfl rfl rfl rfl (List.mem_of_getElem? (i := 4) rfl) (b_loadA ty_a23 ty_s23 (enc_sz l_a0) rfl rfl) ?_
  refine DL.look (v := .agg (enc .u8 a1)) (x := 3) (b := b2) (i := 1) rfl (Wn.none rfl) rfl rfl rfl rfl rfl (List.mem_of_getElem? (i := 3) rfl) (b_loadA ty_a23 ty_s23 (enc_sz l_a1) rfl rfl) ?_
  refine DL.look (v := .agg (enc .u8 a2)) (x := 2) (b := b3) (i := 2) rfl (Wn.none rfl) rfl rfl rfl rfl rfl (List.mem_of_getElem? (i := 2) rfl) (b_loadA ty_a23 ty_s23 (enc_sz l_a2) rfl rfl) ?_
  obtain ⟨t10, h11, h12⟩ := bind_some h7
  have l_t10 := scalar_MulAdd.len l_a0 l_a1 l_a2 h11
  refine DL.qu 15 (.agg (enc .u8 t10)) rfl (f_call rfl rfl (args_val (vs := [.agg (enc .u8 a0), .agg (enc .u8 a1), .agg (enc .u8 a2)]) rfl) (fun w => enter8 _ w) (fun w => scalar_MulAdd.val l_a0 l_a1 l_a2 h11 w)) ?_
  refine DL.look (v := .agg (enc .u8 a0)) (x := 4) (b := b1) (i := 4) rfl (Wn.none rfl) rfl rfl rfl rfl rfl (List.mem_of_getElem? (i := 4) rfl) (b_loadA ty_a23 ty_s23 (enc_sz l_a0) rfl rfl) ?_
  refine DL.look (v := .agg (enc .u8 a1)) (x := 3) (b := b2) (i := 5) rfl (Wn.none rfl) rfl rfl rfl rfl rfl (List.mem_of_getElem? (i := 3) rfl) (b_loadA ty_a23 ty_s23 (enc_sz l_a1) rfl rfl) ?_
  refine DL.look (v := .agg (enc .u8 a2)) (x := 2) (b := b3) (i := 6) rfl (Wn.none rfl) rfl rfl rfl rfl rfl (List.mem_of_getElem? (i := 2) rfl) (b_loadA ty_a23 ty_s23 (enc_sz l_a2) rfl rfl) ?_
  obtain ⟨t13, h14, h15⟩ := bind_some h12
  have l_t13 := ref03_MulAdd.len l_a0 l_a1 l_a2 h14
  refine DL.qu 19 (.agg (enc .u8 t13)) rfl (f_call rfl rfl (args_val (vs := [.agg (enc .u8 a0), .agg (enc .u8 a1), .agg (enc .u8 a2)]) rfl) (fun w => enter14 _ w) (fun w => ref03_MulAdd.val l_a0 l_a1 l_a2 h14 w)) ?_
  refine DL.pu 20 (.bool (t10 == t13)) rfl (p_eqAgg ty_g23 (fun w => run_eqRow (d := 9998) ty_ue23 ty_s5 ty_a5 ty_ue5 l_t10 l_t13 w) rfl rfl rfl) ?_
  refine DL.pu 21 (.bool (t10 == t13)) rfl (p_move rfl rfl) ?_
  obtain ⟨q16, h17, h18⟩ := bind_some h15
  refine DL.cut [(3, ptr b1 0), (8, ptr b8 0), (30, .bool q16)] [19, 20, 21, 22, 23, 24, 25, 26, 27, 28, 29, 30, 31, 32, 33] ?_ (fun J19 => ?_)
  · refine DL.pu 31 (.bool q16) rfl (p_move rfl rfl) ?_
    obtain ⟨q29, h30, h31⟩ := bind_some h18
    refine DL.cut [(8, ptr b8 0), (37, .bool q29)] [26, 27, 28, 29, 30, 31, 32, 33] ?_ (fun J32 => ?_)
    · refine DL.pu 38 (.bool q29) rfl (p_move rfl rfl) ?_
      obtain ⟨q39, h40, h41⟩ := bind_some h31
      refine DL.cut [(41, .bool q39)] [30, 31, 32, 33] ?_ (fun J42 => ?_)
      · refine DL.pu 42 (.bool q39) rfl (p_move rfl rfl) ?_
        obtain ⟨q49, h50, h51⟩ := bind_some h41
        refine DL.cut [(44, .bool q49)] [33] ?_ (fun J52 => ?_)
        · refine DL.pu 6 (.bool q49) rfl (p_assign rfl rfl) ?_
          refine DL.nil' hl9 ?_
          obtain rfl := Option.some.inj h51
          exact ret1 Try.func6 rfl (ResV.tmp rfl) rfl
        · by_cases c53 : q39 = true
          · have h54 := ite_true c53 h50
            obtain ⟨t55, h56, h57⟩ := bind_some h54
            refine DL.quiet (v := .bool t55) rfl (Wn.yes c53 rfl rfl rfl rfl) rfl rfl rfl (f_call rfl rfl (args_val (vs := []) rfl) (fun w => enter10 _ w) (fun w => law03_known.val h56 w)) ?_
            refine DL.pu 44 (.bool t55) rfl (p_pick_t c53 rfl rfl rfl) ?_
            obtain rfl := Option.some.inj h57
            exact DL.weak J52 (Sub.cons rfl (Sub.nil _))
          · replace c53 := Bool.eq_false_iff.mpr c53
            have h58 := ite_false c53 h50
            refine DL.not (i := 31) rfl (Wn.no c53 rfl rfl rfl rfl) rfl rfl ?_
            refine DL.pu 44 (.bool false) rfl (p_pick_f c53 rfl rfl rfl) ?_
            obtain rfl := Option.some.inj h58
            exact DL.weak J52 (Sub.cons rfl (Sub.nil _))
      · by_cases c43 : q29 = true
        · have h44 := ite_true c43 h40
          refine DL.look (v := .agg (enc .u8 t5)) (x := 0) (b := b8) (i := 27) rfl (Wn.yes c43 rfl rfl rfl rfl) rfl rfl rfl rfl rfl (List.mem_of_getElem? (i := 0) rfl) (b_loadA ty_a23 ty_s23 (enc_sz l_t5) rfl rfl) ?_
          obtain ⟨t45, h46, h47⟩ := bind_some h44
          refine DL.quiet (v := .bool t45) rfl (Wn.yes c43 rfl rfl rfl rfl) rfl rfl rfl (f_call rfl rfl (args_val (vs := [.agg (enc .u8 t5)]) rfl) (fun w => enter13 _ w) (fun w => scalar_May.val l_t5 h46 w)) ?_
          refine DL.pu 41 (.bool t45) rfl (p_pick_t c43 rfl rfl rfl) ?_
          obtain rfl := Option.some.inj h47
          exact DL.weak J42 (Sub.cons rfl (Sub.nil _))
        · replace c43 := Bool.eq_false_iff.mpr c43
          have h48 := ite_false c43 h40
          refine DL.not (i := 27) rfl (Wn.no c43 rfl rfl rfl rfl) rfl rfl ?_
          refine DL.not (i := 28) rfl (Wn.no c43 rfl rfl rfl rfl) rfl rfl ?_
          refine DL.pu 41 (.bool false) rfl (p_pick_f c43 rfl rfl rfl) ?_
          obtain rfl := Option.some.inj h48
          exact DL.weak J42 (Sub.cons rfl (Sub.nil _))
    · by_cases c33 : q16 = true
      · have h34 := ite_true c33 h30
        refine DL.look (v := .agg (enc .u8 a0)) (x := 4) (b := b1) (i := 20) rfl (Wn.yes c33 rfl rfl rfl rfl) rfl rfl rfl rfl rfl (List.mem_of_getElem? (i := 4) rfl) (b_loadA ty_a23 ty_s23 (enc_sz l_a0) rfl rfl) ?_
        refine DL.look (v := .agg (enc .u8 t5)) (x := 0) (b := b8) (i := 21) rfl (Wn.yes c33 rfl rfl rfl rfl) rfl rfl rfl rfl rfl (List.mem_of_getElem? (i := 0) rfl) (b_loadA ty_a23 ty_s23 (enc_sz l_t5) rfl rfl) ?_
        obtain ⟨t35, h36, h37⟩ := bind_some h34
        have l_t35 := scalar_Add.len l_a0 l_t5 h36
        refine DL.quiet (v := .agg (enc .u8 t35)) rfl (Wn.yes c33 rfl rfl rfl rfl) rfl rfl rfl (f_call rfl rfl (args_val (vs := [.agg (enc .u8 a0), .agg (enc .u8 t5)]) rfl) (fun w => enter11 _ w) (fun w => scalar_Add.val l_a0 l_t5 h36 w)) ?_
        refine DL.pure (v := .agg (enc .u8 (List.replicate 32 0))) rfl (Wn.yes c33 rfl rfl rfl rfl) rfl rfl rfl (p_build (vs := []) (fun w => by kernel_rfl) rfl rfl) ?_
        refine DL.pure (v := .bool (t35 == (List.replicate 32 0))) rfl (Wn.yes c33 rfl rfl rfl rfl) rfl rfl rfl (p_eqAgg ty_g23 (fun w => run_eqRow (d := 9998) ty_ue23 ty_s5 ty_a5 ty_ue5 l_t35 (by simp) w) rfl rfl rfl) ?_
        refine DL.pu 37 (.bool (t35 == (List.replicate 32 0))) rfl (p_pick_t c33 rfl rfl rfl) ?_
        obtain rfl := Option.some.inj h37
        exact DL.weak J32 (Sub.cons rfl (Sub.cons rfl (Sub.nil _)))
      · replace c33 := Bool.eq_false_iff.mpr c33
        have h38 := ite_false c33 h30
        refine DL.not (i := 20) rfl (Wn.no c33 rfl rfl rfl rfl) rfl rfl ?_
        refine DL.not (i := 21) rfl (Wn.no c33 rfl rfl rfl rfl) rfl rfl ?_
        refine DL.not (i := 22) rfl (Wn.no c33 rfl rfl rfl rfl) rfl rfl ?_
        refine DL.not (i := 23) rfl (Wn.no c33 rfl rfl rfl rfl) rfl rfl ?_
        refine DL.not (i := 24) rfl (Wn.no c33 rfl rfl rfl rfl) rfl rfl ?_
        refine DL.pu 37 (.bool false) rfl (p_pick_f c33 rfl rfl rfl) ?_
        obtain rfl := Option.some.inj h38
        exact DL.weak J32 (Sub.cons rfl (Sub.cons rfl (Sub.nil _)))
  · by_cases c20 : (t10 == t13) = true
    · have h21 := ite_true c20 h17
      refine DL.look (v := .agg (enc .u8 a0)) (x := 4) (b := b1) (i := 10) rfl (Wn.yes c20 rfl rfl rfl rfl) rfl rfl rfl rfl rfl (List.mem_of_getElem? (i := 4) rfl) (b_loadA ty_a23 ty_s23 (enc_sz l_a0) rfl rfl) ?_
      refine DL.look (v := .agg (enc .u8 a1)) (x := 3) (b := b2) (i := 11) rfl (Wn.yes c20 rfl rfl rfl rfl) rfl rfl rfl rfl rfl (List.mem_of_getElem? (i := 3) rfl) (b_loadA ty_a23 ty_s23 (enc_sz l_a1) rfl rfl) ?_
      obtain ⟨t22, h23, h24⟩ := bind_some h21
      have l_t22 := scalar_Add.len l_a0 l_a1 h23
      refine DL.quiet (v := .agg (enc .u8 t22)) rfl (Wn.yes c20 rfl rfl rfl rfl) rfl rfl rfl (f_call rfl rfl (args_val (vs := [.agg (enc .u8 a0), .agg (enc .u8 a1)]) rfl) (fun w => enter11 _ w) (fun w => scalar_Add.val l_a0 l_a1 h23 w)) ?_
      refine DL.look (v := .agg (enc .u8 a0)) (x := 4) (b := b1) (i := 13) rfl (Wn.yes c20 rfl rfl rfl rfl) rfl rfl rfl rfl rfl (List.mem_of_getElem? (i := 4) rfl) (b_loadA ty_a23 ty_s23 (enc_sz l_a0) rfl rfl) ?_
      refine DL.look (v := .agg (enc .u8 (1 :: List.replicate 31 0))) (x := 1) (b := b4) (i := 14) rfl (Wn.yes c20 rfl rfl rfl rfl) rfl rfl rfl rfl rfl (List.mem_of_getElem? (i := 1) rfl) (b_loadA ty_a23 ty_s23 (enc_sz (by simp)) rfl rfl) ?_
      refine DL.look (v := .agg (enc .u8 a1)) (x := 3) (b := b2) (i := 15) rfl (Wn.yes c20 rfl rfl rfl rfl) rfl rfl rfl rfl rfl (List.mem_of_getElem? (i := 3) rfl) (b_loadA ty_a23 ty_s23 (enc_sz l_a1) rfl rfl) ?_
      obtain ⟨t25, h26, h27⟩ := bind_some h24
      have l_t25 := ref03_MulAdd.len l_a0 (by simp) l_a1 h26
      refine DL.quiet (v := .agg (enc .u8 t25)) rfl (Wn.yes c20 rfl rfl rfl rfl) rfl rfl rfl (f_call rfl rfl (args_val (vs := [.agg (enc .u8 a0), .agg (enc .u8 (1 :: List.replicate 31 0)), .agg (enc .u8 a1)]) rfl) (fun w => enter14 _ w) (fun w => ref03_MulAdd.val l_a0 (by simp) l_a1 h26 w)) ?_
      refine DL.pure (v := .bool (t22 == t25)) rfl (Wn.yes c20 rfl rfl rfl rfl) rfl rfl rfl (p_eqAgg ty_g23 (fun w => run_eqRow (d := 9998) ty_ue23 ty_s5 ty_a5 ty_ue5 l_t22 l_t25 w) rfl rfl rfl) ?_
      refine DL.pu 30 (.bool (t22 == t25)) rfl (p_pick_t c20 rfl rfl rfl) ?_
      obtain rfl := Option.some.inj h27
      exact DL.weak J19 (Sub.cons rfl (Sub.cons rfl (Sub.cons rfl (Sub.nil _))))
    · replace c20 := Bool.eq_false_iff.mpr c20
      have h28 := ite_false c20 h17
      refine DL.not (i := 10) rfl (Wn.no c20 rfl rfl rfl rfl) rfl rfl ?_
      refine DL.not (i := 11) rfl (Wn.no c20 rfl rfl rfl rfl) rfl rfl ?_
      refine DL.not (i := 12) rfl (Wn.no c20 rfl rfl rfl rfl) rfl rfl ?_
      refine DL.not (i := 13) rfl (Wn.no c20 rfl rfl rfl rfl) rfl rfl ?_
      refine DL.not (i := 14) rfl (Wn.no c20 rfl rfl rfl rfl) rfl rfl ?_
      refine DL.not (i := 15) rfl (Wn.no c20 rfl rfl rfl rfl) rfl rfl ?_
      refine DL.not (i := 16) rfl (Wn.no c20 rfl rfl rfl rfl) rfl rfl ?_
      refine DL.not (i := 17) rfl (Wn.no c20 rfl rfl rfl rfl) rfl rfl ?_
      refine DL.pu 30 (.bool false) rfl (p_pick_f c20 rfl rfl rfl) ?_
      obtain rfl := Option.some.inj h28
      exact DL.weak J19 (Sub.cons rfl (Sub.cons rfl (Sub.cons rfl (Sub.nil _))))
theorem law03_ScalarReckons.val {a0 : List Int} {a1 : List Int} {a2 : List Int} {r : Bool} (l_a0 : a0.length = 32) (l_a1 : a1.length = 32) (l_a2 : a2.length = 32) (h : law03_ScalarReckons.f a0 a1 a2 = some r) (w : World) : Calls Try.prog 6 #[.agg (enc .u8 a0), .agg (enc .u8 a1), .agg (enc .u8 a2)] w fun e w' => e = .returned (.bool r) ∧ Below w.heap.size w w' :=
  calls_value (law03_ScalarReckons.ok l_a0 l_a1 l_a2 h w)

/-! ### escutcheon/escutcheonlaw03.ScalarReduces: function 7 -/
noncomputable def B7 : Code := bodyOf Try.f7
def law03_ScalarReduces.f (a0 : List Int) (a1 : List Int) : Option (Bool) := (scalar_Reduce.f a0).bind fun t3 => (ref03_Reduce.f a0).bind fun t8 => (if (t3 == t8) = true then ((scalar_May.f t3).bind fun t17 => some t17) else (some false)).bind fun q11 => (if q11 = true then ((scalar_May.f a1).bind fun t27 => (ref03_May.f a1).bind fun t30 => some (t27 == t30)) else (some false)).bind fun q21 => (if q21 = true then ((scalar_Clamp.f a1).bind fun t40 => (ref03_Clamp.f a1).bind fun t43 => some (t40 == t43)) else (some false)).bind fun q34 => (if q34 = true then ((law03_known.f).bind fun t53 => some t53) else (some false)).bind fun q47 => some q47
set_option maxRecDepth 20000 in
theorem law03_ScalarReduces.ok {a0 : List Int} {a1 : List Int} {r : Bool} (l_a0 : a0.length = 64) (l_a1 : a1.length = 32) (h : law03_ScalarReduces.f a0 a1 = some r) (w : World) : Calls Try.prog 7 #[.agg (enc .u8 a0), .agg (enc .u8 a1)] w (Post (fun u => u = .bool r) w) := by
  unfold law03_ScalarReduces.f at h
  refine calls_of_TT (N := 33) (S := [(0, .agg (enc .u8 a0)), (1, .agg (enc .u8 a1))]) (c := B7) Try.func7 rfl rfl rfl (by simp) ?_
  show TT _ _ _ _ _ _ [.code (sub [] B7)] _ _
  refine TT.seq (x := sub [0] B7) (y := sub [1] B7) ?_
  refine TT.region (id := 0) (n := 3) (ops := (opsOf (sub [0] B7))) [(.alloc, none), (.alloc, none), (.pure, none)] rfl ?_
  show DL _ _ _ _ _ _ _ _ _ _ [0, 1, 2] _ _
  refine DL.new (ob := .cells (enc .u8 a0) 34) (mk := fun b => ptr b 0) (i := 0) rfl (Wn.none rfl) rfl rfl rfl (f_box (v := .agg (enc .u8 a0)) rfl rfl) ?_
  intro b1 hb1
  refine DL.new (ob := .cells (enc .u8 a1) 23) (mk := fun b => ptr b 0) (i := 1) rfl (Wn.none rfl) rfl rfl rfl (f_box (v := .agg (enc .u8 a1)) rfl rfl) ?_
  intro b2 hb2
  refine DL.pu 4 (.bool false) rfl (p_assign rfl rfl) ?_
  refine DL.nil ?_
  refine TT.seq (x := sub [1, 0] B7) (y := sub [1, 1] B7) ?_
  refine TT.region (id := 1) (n := 4) (ops := (opsOf (sub [1, 0] B7))) [(.quiet, none), (.quiet, none), (.alloc, none), (.store, none)] rfl ?_
  show DL _ _ _ _ _ _ _ _ _ _ [0, 1, 2, 3] _ _
  refine DL.qu 6 (.agg (enc .u8 a0)) rfl (f_loadA (j := 1) ty_a34 ty_s34 rfl (enc_sz l_a0) rfl rfl) ?_
  obtain ⟨t3, h4, h5⟩ := bind_some h
  have l_t3 := scalar_Reduce.len l_a0 h4
  refine DL.qu 7 (.agg (enc .u8 t3)) rfl (f_call rfl rfl (args_val (vs := [.agg (enc .u8 a0)]) rfl) (fun w => enter15 _ w) (fun w => scalar_Reduce.val l_a0 h4 w)) ?_
  refine DL.new (ob := .cells (enc .u8 (List.replicate 32 0)) 23) (mk := fun b => ptr b 0) (i := 2) rfl (Wn.none rfl) rfl rfl rfl (f_alloc ty_z23 rfl) ?_
  intro b6 hb6
  refine DL.put (H' := [(some b6, .cells (enc .u8 t3) 23 (0, 0)), (some b2, .cells (enc .u8 a1) 23 (0, 0)), (some b1, .cells (enc .u8 a0) 34 (0, 0))]) (i := 3) rfl (Wn.none rfl) rfl rfl (f_storeA (j := 0) ty_s23 rfl (enc_sz l_t3) (enc_sz (List.length_replicate)) (enc_oneCell _ _) rfl rfl rfl) (keep_none rfl) ?_
  refine DL.nil ?_
  refine TT.seq (x := sub [1, 1, 0] B7) (y := sub [1, 1, 1] B7) ?_
  refine TT.regionD (id := 2) (ops := (opsOf (sub [1, 1, 0] B7))) [0, 1, 2, 3, 4, 5, 6, 7, 8, 9, 10, 11, 12, 13, 14, 15, 16, 17, 18, 19, 20, 21, 22, 23, 24, 25] [0, 0, 2, 7, 15, 31, 63, 127, 255, 511, 1023, 511, 4095, 8191, 16383, 32767, 65535, 131071, 65535, 524287, 1048575, 2097151, 4194303, 8388607, 16777215, 33554431] [(.look, some 0), (.pure, none), (.quiet, none), (.pure, none), (.pure, none), (.look, some 0), (.quiet, none), (.pure, none), (.pure, none), (.look, some 1), (.quiet, none), (.look, some 1), (.quiet, none), (.pure, none), (.pure, none), (.pure, none), (.look, some 1), (.quiet, none), (.look, some 1), (.quiet, none), (.pure, none), (.pure, none), (.pure, none), (.quiet, none), (.pure, none), (.pure, none)] mixed (by kernel_rfl) ?_
  intro w7 hl7 hj7 hz7
  refine DL.look (v := .agg (enc .u8 t3)) (x := 0) (b := b6) (i := 0) rfl (Wn.none rfl) rfl rfl rfl rfl rfl (List.mem_of_getElem? (i := 0) rfl) (b_loadA ty_a23 ty_s23 (enc_sz l_t3) rfl rfl) ?_
  refine DL.pu 9 (.slice (some ⟨b1, 0, none⟩) 64 64) rfl (p_view ty_u34 ty_s5 (by decide) rfl rfl) ?_
  obtain ⟨t8, h9, h10⟩ := bind_some h5
  have l_t8 := ref03_Reduce.len h9
  refine DL.qu 10 (.agg (enc .u8 t8)) rfl (f_callR rfl rfl (args_val (vs := [.slice (some ⟨b1, 0, none⟩) 64 64]) rfl) (fun w => enter16 _ w) (fun w hc => ref03_Reduce.val h9 w (view_row l_a0 hc (i := 2) rfl))) ?_
  refine DL.pu 11 (.bool (t3 == t8)) rfl (p_eqAgg ty_g23 (fun w => run_eqRow (d := 9998) ty_ue23 ty_s5 ty_a5 ty_ue5 l_t3 l_t8 w) rfl rfl rfl) ?_
  refine DL.pu 12 (.bool (t3 == t8)) rfl (p_move rfl rfl) ?_
  obtain ⟨q11, h12, h13⟩ := bind_some h10
  refine DL.cut [(3, ptr b2 0), (15, .bool q11)] [8, 9, 10, 11, 12, 13, 14, 15, 16, 17, 18, 19, 20, 21, 22, 23, 24, 25] ?_ (fun J14 => ?_)
  · refine DL.pu 16 (.bool q11) rfl (p_move rfl rfl) ?_
    obtain ⟨q21, h22, h23⟩ := bind_some h13
    refine DL.cut [(3, ptr b2 0), (22, .bool q21)] [15, 16, 17, 18, 19, 20, 21, 22, 23, 24, 25] ?_ (fun J24 => ?_)
    · refine DL.pu 23 (.bool q21) rfl (p_move rfl rfl) ?_
      obtain ⟨q34, h35, h36⟩ := bind_some h23
      refine DL.cut [(29, .bool q34)] [22, 23, 24, 25] ?_ (fun J37 => ?_)
      · refine DL.pu 30 (.bool q34) rfl (p_move rfl rfl) ?_
        obtain ⟨q47, h48, h49⟩ := bind_some h36
        refine DL.cut [(32, .bool q47)] [25] ?_ (fun J50 => ?_)
        · refine DL.pu 4 (.bool q47) rfl (p_assign rfl rfl) ?_
          refine DL.nil' hl7 ?_
          obtain rfl := Option.some.inj h49
          exact ret1 Try.func7 rfl (ResV.tmp rfl) rfl
        · by_cases c51 : q34 = true
          · have h52 := ite_true c51 h48
            obtain ⟨t53, h54, h55⟩ := bind_some h52
            refine DL.quiet (v := .bool t53) rfl (Wn.yes c51 rfl rfl rfl rfl) rfl rfl rfl (f_call rfl rfl (args_val (vs := []) rfl) (fun w => enter10 _ w) (fun w => law03_known.val h54 w)) ?_
            refine DL.pu 32 (.bool t53) rfl (p_pick_t c51 rfl rfl rfl) ?_
            obtain rfl := Option.some.inj h55
            exact DL.weak J50 (Sub.cons rfl (Sub.nil _))
          · replace c51 := Bool.eq_false_iff.mpr c51
            have h56 := ite_false c51 h48
            refine DL.not (i := 23) rfl (Wn.no c51 rfl rfl rfl rfl) rfl rfl ?_
            refine DL.pu 32 (.bool false) rfl (p_pick_f c51 rfl rfl rfl) ?_
            obtain rfl := Option.some.inj h56
            exact DL.weak J50 (Sub.cons rfl (Sub.nil _))
      · by_cases c38 : q21 = true
        · have h39 := ite_true c38 h35
          refine DL.look (v := .agg (enc .u8 a1)) (x := 1) (b := b2) (i := 16) rfl (Wn.yes c38 rfl rfl rfl rfl) rfl rfl rfl rfl rfl (List.mem_of_getElem? (i := 1) rfl) (b_loadA ty_a23 ty_s23 (enc_sz l_a1) rfl rfl) ?_
          obtain ⟨t40, h41, h42⟩ := bind_some h39
          have l_t40 := scalar_Clamp.len l_a1 h41
          refine DL.quiet (v := .agg (enc .u8 t40)) rfl (Wn.yes c38 rfl rfl rfl rfl) rfl rfl rfl (f_call rfl rfl (args_val (vs := [.agg (enc .u8 a1)]) rfl) (fun w => enter18 _ w) (fun w => scalar_Clamp.val l_a1 h41 w)) ?_
          refine DL.look (v := .agg (enc .u8 a1)) (x := 1) (b := b2) (i := 18) rfl (Wn.yes c38 rfl rfl rfl rfl) rfl rfl rfl rfl rfl (List.mem_of_getElem? (i := 1) rfl) (b_loadA ty_a23 ty_s23 (enc_sz l_a1) rfl rfl) ?_
          obtain ⟨t43, h44, h45⟩ := bind_some h42
          have l_t43 := ref03_Clamp.len l_a1 h44
          refine DL.quiet (v := .agg (enc .u8 t43)) rfl (Wn.yes c38 rfl rfl rfl rfl) rfl rfl rfl (f_call rfl rfl (args_val (vs := [.agg (enc .u8 a1)]) rfl) (fun w => enter19 _ w) (fun w => ref03_Clamp.val l_a1 h44 w)) ?_
          refine DL.pure (v := .bool (t40 == t43)) rfl (Wn.yes c38 rfl rfl rfl rfl) rfl rfl rfl (p_eqAgg ty_g23 (fun w => run_eqRow (d := 9998) ty_ue23 ty_s5 ty_a5 ty_ue5 l_t40 l_t43 w) rfl rfl rfl) ?_
          refine DL.pu 29 (.bool (t40 == t43)) rfl (p_pick_t c38 rfl rfl rfl) ?_
          obtain rfl := Option.some.inj h45
          exact DL.weak J37 (Sub.cons rfl (Sub.nil _))
        · replace c38 := Bool.eq_false_iff.mpr c38
          have h46 := ite_false c38 h35
          refine DL.not (i := 16) rfl (Wn.no c38 rfl rfl rfl rfl) rfl rfl ?_
          refine DL.not (i := 17) rfl (Wn.no c38 rfl rfl rfl rfl) rfl rfl ?_
          refine DL.not (i := 18) rfl (Wn.no c38 rfl rfl rfl rfl) rfl rfl ?_
          refine DL.not (i := 19) rfl (Wn.no c38 rfl rfl rfl rfl) rfl rfl ?_
          refine DL.not (i := 20) rfl (Wn.no c38 rfl rfl rfl rfl) rfl rfl ?_
          refine DL.pu 29 (.bool false) rfl (p_pick_f c38 rfl rfl rfl) ?_
          obtain rfl := Option.some.inj h46
          exact DL.weak J37 (Sub.cons rfl (Sub.nil _))
    · by_cases c25 : q11 = true
      · have h26 := ite_true c25 h22
        refine DL.look (v := .agg (enc .u8 a1)) (x := 1) (b := b2) (i := 9) rfl (Wn.yes c25 rfl rfl rfl rfl) rfl rfl rfl rfl rfl (List.mem_of_getElem? (i := 1) rfl) (b_loadA ty_a23 ty_s23 (enc_sz l_a1) rfl rfl) ?_
        obtain ⟨t27, h28, h29⟩ := bind_some h26
        refine DL.quiet (v := .bool t27) rfl (Wn.yes c25 rfl rfl rfl rfl) rfl rfl rfl (f_call rfl rfl (args_val (vs := [.agg (enc .u8 a1)]) rfl) (fun w => enter13 _ w) (fun w => scalar_May.val l_a1 h28 w)) ?_
        refine DL.look (v := .agg (enc .u8 a1)) (x := 1) (b := b2) (i := 11) rfl (Wn.yes c25 rfl rfl rfl rfl) rfl rfl rfl rfl rfl (List.mem_of_getElem? (i := 1) rfl) (b_loadA ty_a23 ty_s23 (enc_sz l_a1) rfl rfl) ?_
        obtain ⟨t30, h31, h32⟩ := bind_some h29
        refine DL.quiet (v := .bool t30) rfl (Wn.yes c25 rfl rfl rfl rfl) rfl rfl rfl (f_call rfl rfl (args_val (vs := [.agg (enc .u8 a1)]) rfl) (fun w => enter17 _ w) (fun w => ref03_May.val l_a1 h31 w)) ?_
        refine DL.pure (v := .bool (t27 == t30)) rfl (Wn.yes c25 rfl rfl rfl rfl) rfl rfl rfl (p_eqb ty_u4 rfl rfl rfl) ?_
        refine DL.pu 22 (.bool (t27 == t30)) rfl (p_pick_t c25 rfl rfl rfl) ?_
        obtain rfl := Option.some.inj h32
        exact DL.weak J24 (Sub.cons rfl (Sub.cons rfl (Sub.nil _)))
      · replace c25 := Bool.eq_false_iff.mpr c25
        have h33 := ite_false c25 h22
        refine DL.not (i := 9) rfl (Wn.no c25 rfl rfl rfl rfl) rfl rfl ?_
        refine DL.not (i := 10) rfl (Wn.no c25 rfl rfl rfl rfl) rfl rfl ?_
        refine DL.not (i := 11) rfl (Wn.no c25 rfl rfl rfl rfl) rfl rfl ?_
        refine DL.not (i := 12) rfl (Wn.no c25 rfl rfl rfl rfl) rfl rfl ?_
        refine DL.not (i := 13) rfl (Wn.no c25 rfl rfl rfl rfl) rfl rfl ?_
        refine DL.pu 22 (.bool false) rfl (p_pick_f c25 rfl rfl rfl) ?_
        obtain rfl := Option.some.inj h33
        exact DL.weak J24 (Sub.cons rfl (Sub.cons rfl (Sub.nil _)))
  · by_cases c15 : (t3 == t8) = true
    · have h16 := ite_true c15 h12
      refine DL.look (v := .agg (enc .u8 t3)) (x := 0) (b := b6) (i := 5) rfl (Wn.yes c15 rfl rfl rfl rfl) rfl rfl rfl rfl rfl (List.mem_of_getElem? (i := 0) rfl) (b_loadA ty_a23 ty_s23 (enc_sz l_t3) rfl rfl) ?_
      obtain ⟨t17, h18, h19⟩ := bind_some h16
      refine DL.quiet (v := .bool t17) rfl (Wn.yes c15 rfl rfl rfl rfl) rfl rfl rfl (f_call rfl rfl (args_val (vs := [.agg (enc .u8 t3)]) rfl) (fun w => enter13 _ w) (fun w => scalar_May.val l_t3 h18 w)) ?_
      refine DL.pu 15 (.bool t17) rfl (p_pick_t c15 rfl rfl rfl) ?_
      obtain rfl := Option.some.inj h19
      exact DL.weak J14 (Sub.cons rfl (Sub.cons rfl (Sub.nil _)))
    · replace c15 := Bool.eq_false_iff.mpr c15
      have h20 := ite_false c15 h12
      refine DL.not (i := 5) rfl (Wn.no c15 rfl rfl rfl rfl) rfl rfl ?_
      refine DL.not (i := 6) rfl (Wn.no c15 rfl rfl rfl rfl) rfl rfl ?_
      refine DL.pu 15 (.bool false) rfl (p_pick_f c15 rfl rfl rfl) ?_
      obtain rfl := Option.some.inj h20
      exact DL.weak J14 (Sub.cons rfl (Sub.cons rfl (Sub.nil _)))
theorem law03_ScalarReduces.val {a0 : List Int} {a1 : List Int} {r : Bool} (l_a0 : a0.length = 64) (l_a1 : a1.length = 32) (h : law03_ScalarReduces.f a0 a1 = some r) (w : World) : Calls Try.prog 7 #[.agg (enc .u8 a0), .agg (enc .u8 a1)] w fun e w' => e = .returned (.bool r) ∧ Below w.heap.size w w' :=
  calls_value (law03_ScalarReduces.ok l_a0 l_a1 h w)

end Go.Proofs.Ytillmeddkdcenaa
