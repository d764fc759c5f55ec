import Derived.Test.YtillmeddkdcenaaSc1
namespace Go.Proofs.Ytillmeddkdcenaa
open Go Go.HW Go.RowKit
set_option linter.unusedVariables false
set_option linter.unusedSimpArgs false

/-! ### escutcheon/escutcheonlaw03.ScalarSigns: function 3 -/
noncomputable def B3 : Code := bodyOf Try.f3
def law03_ScalarSigns.f (a0 : List Int) (a1 : List Int) : Option (Bool) := (scalar_MulAdd.f a0 (1 :: List.replicate 31 0) (List.replicate 32 0)).bind fun t4 => (scalar_Neg.f a0).bind fun t8 => (scalar_Neg.f t8).bind fun t13 => (if (t13 == t4) = true then ((scalar_MulAdd.f a0 a1 (List.replicate 32 0)).bind fun t22 => (scalar_MulAdd.f t8 a1 t22).bind fun t25 => some (t25 == (List.replicate 32 0))) else (some false)).bind fun q16 => (if q16 = true then ((scalar_Neg.f a1).bind fun t35 => (scalar_MulAdd.f t8 t35 (List.replicate 32 0)).bind fun t38 => (scalar_MulAdd.f a0 a1 (List.replicate 32 0)).bind fun t41 => some (t38 == t41)) else (some false)).bind fun q29 => (if q29 = true then ((law03_known.f).bind fun t51 => some t51) else (some false)).bind fun q45 => some q45
set_option maxRecDepth 20000 in
theorem law03_ScalarSigns.ok {a0 : List Int} {a1 : List Int} {r : Bool} (l_a0 : a0.length = 32) (l_a1 : a1.length = 32) (h : law03_ScalarSigns.f a0 a1 = some r) (w : World) : Calls Try.prog 3 #[.agg (enc .u8 a0), .agg (enc .u8 a1)] w (Post (fun u => u = .bool r) w) := by
  unfold law03_ScalarSigns.f at h
  refine calls_of_TT (N := 45) (S := [(0, .agg (enc .u8 a0)), (1, .agg (enc .u8 a1))]) (c := B3) Try.func3 rfl rfl rfl (by simp) ?_
  show TT _ _ _ _ _ _ [.code (sub [] B3)] _ _
  refine TT.seq (x := sub [0] B3) (y := sub [1] B3) ?_
  refine TT.region (id := 0) (n := 3) (ops := (opsOf (sub [0] B3))) [(.alloc, none), (.alloc, none), (.pure, none)] rfl ?_
  show DL _ _ _ _ _ _ _ _ _ _ [0, 1, 2] _ _
  refine DL.new (ob := .cells (enc .u8 a0) 23) (mk := fun b => ptr b 0) (i := 0) rfl (Wn.none rfl) rfl rfl rfl (f_box (v := .agg (enc .u8 a0)) rfl rfl) ?_
  intro b1 hb1
  refine DL.new (ob := .cells (enc .u8 a1) 23) (mk := fun b => ptr b 0) (i := 1) rfl (Wn.none rfl) rfl rfl rfl (f_box (v := .agg (enc .u8 a1)) rfl rfl) ?_
  intro b2 hb2
  refine DL.pu 4 (.bool false) rfl (p_assign rfl rfl) ?_
  refine DL.nil ?_
  refine TT.seq (x := sub [1, 0] B3) (y := sub [1, 1] B3) ?_
  refine TT.region (id := 1) (n := 3) (ops := (opsOf (sub [1, 0] B3))) [(.pure, none), (.alloc, none), (.store, none)] rfl ?_
  show DL _ _ _ _ _ _ _ _ _ _ [0, 1, 2] _ _
  refine DL.pu 8 (.agg (enc .u8 (1 :: List.replicate 31 0))) rfl (p_build (vs := [(0, .int .u8 1)]) (fun w => by kernel_rfl) rfl rfl) ?_
  refine DL.new (ob := .cells (enc .u8 (List.replicate 32 0)) 23) (mk := fun b => ptr b 0) (i := 1) rfl (Wn.none rfl) rfl rfl rfl (f_alloc ty_z23 rfl) ?_
  intro b3 hb3
  refine DL.put (H' := [(some b3, .cells (enc .u8 (1 :: List.replicate 31 0)) 23 (0, 0)), (some b2, .cells (enc .u8 a1) 23 (0, 0)), (some b1, .cells (enc .u8 a0) 23 (0, 0))]) (i := 2) rfl (Wn.none rfl) rfl rfl (f_storeA (j := 0) ty_s23 rfl (enc_sz (by simp)) (enc_sz (List.length_replicate)) (enc_oneCell _ _) rfl rfl rfl) (keep_none rfl) ?_
  refine DL.nil ?_
  refine TT.seq (x := sub [1, 1, 0] B3) (y := sub [1, 1, 1] B3) ?_
  refine TT.region (id := 2) (n := 6) (ops := (opsOf (sub [1, 1, 0] B3))) [(.quiet, none), (.quiet, none), (.pure, none), (.quiet, none), (.alloc, none), (.store, none)] rfl ?_
  show DL _ _ _ _ _ _ _ _ _ _ [0, 1, 2, 3, 4, 5] _ _
  refine DL.qu 9 (.agg (enc .u8 a0)) rfl (f_loadA (j := 2) ty_a23 ty_s23 rfl (enc_sz l_a0) rfl rfl) ?_
  refine DL.qu 10 (.agg (enc .u8 (1 :: List.replicate 31 0))) rfl (f_loadA (j := 0) ty_a23 ty_s23 rfl (enc_sz (by simp)) rfl rfl) ?_
  refine DL.pu 11 (.agg (enc .u8 (List.replicate 32 0))) rfl (p_build (vs := []) (fun w => by kernel_rfl) rfl rfl) ?_
  obtain ⟨t4, h5, h6⟩ := bind_some h
  have l_t4 := scalar_MulAdd.len l_a0 (by simp) (by simp) h5
  refine DL.qu 12 (.agg (enc .u8 t4)) rfl (f_call rfl rfl (args_val (vs := [.agg (enc .u8 a0), .agg (enc .u8 (1 :: List.replicate 31 0)), .agg (enc .u8 (List.replicate 32 0))]) rfl) (fun w => enter8 _ w) (fun w => scalar_MulAdd.val l_a0 (by simp) (by simp) h5 w)) ?_
  refine DL.new (ob := .cells (enc .u8 (List.replicate 32 0)) 23) (mk := fun b => ptr b 0) (i := 4) rfl (Wn.none rfl) rfl rfl rfl (f_alloc ty_z23 rfl) ?_
  intro b7 hb7
  refine DL.put (H' := [(some b7, .cells (enc .u8 t4) 23 (0, 0)), (some b3, .cells (enc .u8 (1 :: List.replicate 31 0)) 23 (0, 0)), (some b2, .cells (enc .u8 a1) 23 (0, 0)), (some b1, .cells (enc .u8 a0) 23 (0, 0))]) (i := 5) rfl (Wn.none rfl) rfl rfl (f_storeA (j := 0) ty_s23 rfl (enc_sz l_t4) (enc_sz (List.length_replicate)) (enc_oneCell _ _) rfl rfl rfl) (keep_none rfl) ?_
  refine DL.nil ?_
  refine TT.seq (x := sub [1, 1, 1, 0] B3) (y := sub [1, 1, 1, 1] B3) ?_
  refine TT.region (id := 3) (n := 4) (ops := (opsOf (sub [1, 1, 1, 0] B3))) [(.quiet, none), (.quiet, none), (.alloc, none), (.store, none)] rfl ?_
  show DL _ _ _ _ _ _ _ _ _ _ [0, 1, 2, 3] _ _
  refine DL.qu 13 (.agg (enc .u8 a0)) rfl (f_loadA (j := 3) ty_a23 ty_s23 rfl (enc_sz l_a0) rfl rfl) ?_
  obtain ⟨t8, h9, h10⟩ := bind_some h6
  have l_t8 := scalar_Neg.len l_a0 h9
  refine DL.qu 14 (.agg (enc .u8 t8)) rfl (f_call rfl rfl (args_val (vs := [.agg (enc .u8 a0)]) rfl) (fun w => enter9 _ w) (fun w => scalar_Neg.val l_a0 h9 w)) ?_
  refine DL.new (ob := .cells (enc .u8 (List.replicate 32 0)) 23) (mk := fun b => ptr b 0) (i := 2) rfl (Wn.none rfl) rfl rfl rfl (f_alloc ty_z23 rfl) ?_
  intro b11 hb11
  refine DL.put (H' := [(some b11, .cells (enc .u8 t8) 23 (0, 0)), (some b7, .cells (enc .u8 t4) 23 (0, 0)), (some b3, .cells (enc .u8 (1 :: List.replicate 31 0)) 23 (0, 0)), (some b2, .cells (enc .u8 a1) 23 (0, 0)), (some b1, .cells (enc .u8 a0) 23 (0, 0))]) (i := 3) rfl (Wn.none rfl) rfl rfl (f_storeA (j := 0) ty_s23 rfl (enc_sz l_t8) (enc_sz (List.length_replicate)) (enc_oneCell _ _) rfl rfl rfl) (keep_none rfl) ?_
  refine DL.nil ?_
  refine TT.seq (x := sub [1, 1, 1, 1, 0] B3) (y := sub [1, 1, 1, 1, 1] B3) ?_
  refine TT.regionD (id := 4) (ops := (opsOf (sub [1, 1, 1, 1, 0] B3))) [0, 1, 2, 3, 4, 5, 6, 7, 8, 9, 10, 11, 12, 13, 14, 15, 16, 17, 18, 19, 20, 21, 22, 23, 24, 25, 26, 27, 28, 29, 30] [0, 1, 0, 7, 15, 31, 31, 31, 31, 31, 927, 2047, 31, 8191, 16383, 32767, 65535, 65535, 196607, 65535, 1048575, 65535, 65535, 65535, 16777215, 33554431, 67108863, 134217727, 268435455, 536870911, 1073741823] [(.look, some 0), (.quiet, none), (.look, some 1), (.pure, none), (.pure, none), (.look, some 0), (.look, some 3), (.look, some 4), (.look, some 3), (.pure, none), (.quiet, none), (.quiet, none), (.pure, none), (.pure, none), (.pure, none), (.pure, none), (.look, some 0), (.look, some 3), (.quiet, none), (.pure, none), (.quiet, none), (.look, some 4), (.look, some 3), (.pure, none), (.quiet, none), (.pure, none), (.pure, none), (.pure, none), (.quiet, none), (.pure, none), (.pure, none)] mixed (by kernel_rfl) ?_
  intro w12 hl12 hj12 hz12
  refine DL.look (v := .agg (enc .u8 t8)) (x := 0) (b := b11) (i := 0) rfl (Wn.none rfl) rfl rfl rfl rfl rfl (List.mem_of_getElem? (i := 0) rfl) (b_loadA ty_a23 ty_s23 (enc_sz l_t8) rfl rfl) ?_
  obtain ⟨t13, h14, h15⟩ := bind_some h10
  have l_t13 := scalar_Neg.len l_t8 h14
  refine DL.qu 16 (.agg (enc .u8 t13)) rfl (f_call rfl rfl (args_val (vs := [.agg (enc .u8 t8)]) rfl) (fun w => enter9 _ w) (fun w => scalar_Neg.val l_t8 h14 w)) ?_
  refine DL.look (v := .agg (enc .u8 t4)) (x := 1) (b := b7) (i := 2) rfl (Wn.none rfl) rfl rfl rfl rfl rfl (List.mem_of_getElem? (i := 1) rfl) (b_loadA ty_a23 ty_s23 (enc_sz l_t4) rfl rfl) ?_
  refine DL.pu 18 (.bool (t13 == t4)) rfl (p_eqAgg ty_g23 (fun w => run_eqRow (d := 9998) ty_ue23 ty_s5 ty_a5 ty_ue5 l_t13 l_t4 w) rfl rfl rfl) ?_
  refine DL.pu 19 (.bool (t13 == t4)) rfl (p_move rfl rfl) ?_
  obtain ⟨q16, h17, h18⟩ := bind_some h15
  refine DL.cut [(2, ptr b1 0), (3, ptr b2 0), (7, ptr b11 0), (29, .bool q16)] [15, 16, 17, 18, 19, 20, 21, 22, 23, 24, 25, 26, 27, 28, 29, 30] ?_ (fun J19 => ?_)
  · refine DL.pu 30 (.bool q16) rfl (p_move rfl rfl) ?_
    obtain ⟨q29, h30, h31⟩ := bind_some h18
    refine DL.cut [(41, .bool q29)] [27, 28, 29, 30] ?_ (fun J32 => ?_)
    · refine DL.pu 42 (.bool q29) rfl (p_move rfl rfl) ?_
      obtain ⟨q45, h46, h47⟩ := bind_some h31
      refine DL.cut [(44, .bool q45)] [30] ?_ (fun J48 => ?_)
      · refine DL.pu 4 (.bool q45) rfl (p_assign rfl rfl) ?_
        refine DL.nil' hl12 ?_
        obtain rfl := Option.some.inj h47
        exact ret1 Try.func3 rfl (ResV.tmp rfl) rfl
      · by_cases c49 : q29 = true
        · have h50 := ite_true c49 h46
          obtain ⟨t51, h52, h53⟩ := bind_some h50
          refine DL.quiet (v := .bool t51) rfl (Wn.yes c49 rfl rfl rfl rfl) rfl rfl rfl (f_call rfl rfl (args_val (vs := []) rfl) (fun w => enter10 _ w) (fun w => law03_known.val h52 w)) ?_
          refine DL.pu 44 (.bool t51) rfl (p_pick_t c49 rfl rfl rfl) ?_
          obtain rfl := Option.some.inj h53
          exact DL.weak J48 (Sub.cons rfl (Sub.nil _))
        · replace c49 := Bool.eq_false_iff.mpr c49
          have h54 := ite_false c49 h46
          refine DL.not (i := 28) rfl (Wn.no c49 rfl rfl rfl rfl) rfl rfl ?_
          refine DL.pu 44 (.bool false) rfl (p_pick_f c49 rfl rfl rfl) ?_
          obtain rfl := Option.some.inj h54
          exact DL.weak J48 (Sub.cons rfl (Sub.nil _))
    · by_cases c33 : q16 = true
      · have h34 := ite_true c33 h30
        refine DL.look (v := .agg (enc .u8 t8)) (x := 0) (b := b11) (i := 16) rfl (Wn.yes c33 rfl rfl rfl rfl) rfl rfl rfl rfl rfl (List.mem_of_getElem? (i := 0) rfl) (b_loadA ty_a23 ty_s23 (enc_sz l_t8) rfl rfl) ?_
        refine DL.look (v := .agg (enc .u8 a1)) (x := 3) (b := b2) (i := 17) rfl (Wn.yes c33 rfl rfl rfl rfl) rfl rfl rfl rfl rfl (List.mem_of_getElem? (i := 3) rfl) (b_loadA ty_a23 ty_s23 (enc_sz l_a1) rfl rfl) ?_
        obtain ⟨t35, h36, h37⟩ := bind_some h34
        have l_t35 := scalar_Neg.len l_a1 h36
        refine DL.quiet (v := .agg (enc .u8 t35)) rfl (Wn.yes c33 rfl rfl rfl rfl) rfl rfl rfl (f_call rfl rfl (args_val (vs := [.agg (enc .u8 a1)]) rfl) (fun w => enter9 _ w) (fun w => scalar_Neg.val l_a1 h36 w)) ?_
        refine DL.pure (v := .agg (enc .u8 (List.replicate 32 0))) rfl (Wn.yes c33 rfl rfl rfl rfl) rfl rfl rfl (p_build (vs := []) (fun w => by kernel_rfl) rfl rfl) ?_
        obtain ⟨t38, h39, h40⟩ := bind_some h37
        have l_t38 := scalar_MulAdd.len l_t8 l_t35 (by simp) h39
        refine DL.quiet (v := .agg (enc .u8 t38)) rfl (Wn.yes c33 rfl rfl rfl rfl) rfl rfl rfl (f_call rfl rfl (args_val (vs := [.agg (enc .u8 t8), .agg (enc .u8 t35), .agg (enc .u8 (List.replicate 32 0))]) rfl) (fun w => enter8 _ w) (fun w => scalar_MulAdd.val l_t8 l_t35 (by simp) h39 w)) ?_
        refine DL.look (v := .agg (enc .u8 a0)) (x := 4) (b := b1) (i := 21) rfl (Wn.yes c33 rfl rfl rfl rfl) rfl rfl rfl rfl rfl (List.mem_of_getElem? (i := 4) rfl) (b_loadA ty_a23 ty_s23 (enc_sz l_a0) rfl rfl) ?_
        refine DL.look (v := .agg (enc .u8 a1)) (x := 3) (b := b2) (i := 22) rfl (Wn.yes c33 rfl rfl rfl rfl) rfl rfl rfl rfl rfl (List.mem_of_getElem? (i := 3) rfl) (b_loadA ty_a23 ty_s23 (enc_sz l_a1) rfl rfl) ?_
        refine DL.pure (v := .agg (enc .u8 (List.replicate 32 0))) rfl (Wn.yes c33 rfl rfl rfl rfl) rfl rfl rfl (p_build (vs := []) (fun w => by kernel_rfl) rfl rfl) ?_
        obtain ⟨t41, h42, h43⟩ := bind_some h40
        have l_t41 := scalar_MulAdd.len l_a0 l_a1 (by simp) h42
        refine DL.quiet (v := .agg (enc .u8 t41)) rfl (Wn.yes c33 rfl rfl rfl rfl) rfl rfl rfl (f_call rfl rfl (args_val (vs := [.agg (enc .u8 a0), .agg (enc .u8 a1), .agg (enc .u8 (List.replicate 32 0))]) rfl) (fun w => enter8 _ w) (fun w => scalar_MulAdd.val l_a0 l_a1 (by simp) h42 w)) ?_
        refine DL.pure (v := .bool (t38 == t41)) rfl (Wn.yes c33 rfl rfl rfl rfl) rfl rfl rfl (p_eqAgg ty_g23 (fun w => run_eqRow (d := 9998) ty_ue23 ty_s5 ty_a5 ty_ue5 l_t38 l_t41 w) rfl rfl rfl) ?_
        refine DL.pu 41 (.bool (t38 == t41)) rfl (p_pick_t c33 rfl rfl rfl) ?_
        obtain rfl := Option.some.inj h43
        exact DL.weak J32 (Sub.cons rfl (Sub.nil _))
      · replace c33 := Bool.eq_false_iff.mpr c33
        have h44 := ite_false c33 h30
        refine DL.not (i := 16) rfl (Wn.no c33 rfl rfl rfl rfl) rfl rfl ?_
        refine DL.not (i := 17) rfl (Wn.no c33 rfl rfl rfl rfl) rfl rfl ?_
        refine DL.not (i := 18) rfl (Wn.no c33 rfl rfl rfl rfl) rfl rfl ?_
        refine DL.not (i := 19) rfl (Wn.no c33 rfl rfl rfl rfl) rfl rfl ?_
        refine DL.not (i := 20) rfl (Wn.no c33 rfl rfl rfl rfl) rfl rfl ?_
        refine DL.not (i := 21) rfl (Wn.no c33 rfl rfl rfl rfl) rfl rfl ?_
        refine DL.not (i := 22) rfl (Wn.no c33 rfl rfl rfl rfl) rfl rfl ?_
        refine DL.not (i := 23) rfl (Wn.no c33 rfl rfl rfl rfl) rfl rfl ?_
        refine DL.not (i := 24) rfl (Wn.no c33 rfl rfl rfl rfl) rfl rfl ?_
        refine DL.not (i := 25) rfl (Wn.no c33 rfl rfl rfl rfl) rfl rfl ?_
        refine DL.pu 41 (.bool false) rfl (p_pick_f c33 rfl rfl rfl) ?_
        obtain rfl := Option.some.inj h44
        exact DL.weak J32 (Sub.cons rfl (Sub.nil _))
  · by_cases c20 : (t13 == t4) = true
    · have h21 := ite_true c20 h17
      refine DL.look (v := .agg (enc .u8 t8)) (x := 0) (b := b11) (i := 5) rfl (Wn.yes c20 rfl rfl rfl rfl) rfl rfl rfl rfl rfl (List.mem_of_getElem? (i := 0) rfl) (b_loadA ty_a23 ty_s23 (enc_sz l_t8) rfl rfl) ?_
      refine DL.look (v := .agg (enc .u8 a1)) (x := 3) (b := b2) (i := 6) rfl (Wn.yes c20 rfl rfl rfl rfl) rfl rfl rfl rfl rfl (List.mem_of_getElem? (i := 3) rfl) (b_loadA ty_a23 ty_s23 (enc_sz l_a1) rfl rfl) ?_
      refine DL.look (v := .agg (enc .u8 a0)) (x := 4) (b := b1) (i := 7) rfl (Wn.yes c20 rfl rfl rfl rfl) rfl rfl rfl rfl rfl (List.mem_of_getElem? (i := 4) rfl) (b_loadA ty_a23 ty_s23 (enc_sz l_a0) rfl rfl) ?_
      refine DL.look (v := .agg (enc .u8 a1)) (x := 3) (b := b2) (i := 8) rfl (Wn.yes c20 rfl rfl rfl rfl) rfl rfl rfl rfl rfl (List.mem_of_getElem? (i := 3) rfl) (b_loadA ty_a23 ty_s23 (enc_sz l_a1) rfl rfl) ?_
      refine DL.pure (v := .agg (enc .u8 (List.replicate 32 0))) rfl (Wn.yes c20 rfl rfl rfl rfl) rfl rfl rfl (p_build (vs := []) (fun w => by kernel_rfl) rfl rfl) ?_
      obtain ⟨t22, h23, h24⟩ := bind_some h21
      have l_t22 := scalar_MulAdd.len l_a0 l_a1 (by simp) h23
      refine DL.quiet (v := .agg (enc .u8 t22)) rfl (Wn.yes c20 rfl rfl rfl rfl) rfl rfl rfl (f_call rfl rfl (args_val (vs := [.agg (enc .u8 a0), .agg (enc .u8 a1), .agg (enc .u8 (List.replicate 32 0))]) rfl) (fun w => enter8 _ w) (fun w => scalar_MulAdd.val l_a0 l_a1 (by simp) h23 w)) ?_
      obtain ⟨t25, h26, h27⟩ := bind_some h24
      have l_t25 := scalar_MulAdd.len l_t8 l_a1 l_t22 h26
      refine DL.quiet (v := .agg (enc .u8 t25)) rfl (Wn.yes c20 rfl rfl rfl rfl) rfl rfl rfl (f_call rfl rfl (args_val (vs := [.agg (enc .u8 t8), .agg (enc .u8 a1), .agg (enc .u8 t22)]) rfl) (fun w => enter8 _ w) (fun w => scalar_MulAdd.val l_t8 l_a1 l_t22 h26 w)) ?_
      refine DL.pure (v := .agg (enc .u8 (List.replicate 32 0))) rfl (Wn.yes c20 rfl rfl rfl rfl) rfl rfl rfl (p_build (vs := []) (fun w => by kernel_rfl) rfl rfl) ?_
      refine DL.pure (v := .bool (t25 == (List.replicate 32 0))) rfl (Wn.yes c20 rfl rfl rfl rfl) rfl rfl rfl (p_eqAgg ty_g23 (fun w => run_eqRow (d := 9998) ty_ue23 ty_s5 ty_a5 ty_ue5 l_t25 (by simp) w) rfl rfl rfl) ?_
      refine DL.pu 29 (.bool (t25 == (List.replicate 32 0))) rfl (p_pick_t c20 rfl rfl rfl) ?_
      obtain rfl := Option.some.inj h27
      exact DL.weak J19 (Sub.cons rfl (Sub.cons rfl (Sub.cons rfl (Sub.cons rfl (Sub.nil _)))))
    · replace c20 := Bool.eq_false_iff.mpr c20
      have h28 := ite_false c20 h17
      refine DL.not (i := 5) rfl (Wn.no c20 rfl rfl rfl rfl) rfl rfl ?_
      refine DL.not (i := 6) rfl (Wn.no c20 rfl rfl rfl rfl) rfl rfl ?_
      refine DL.not (i := 7) rfl (Wn.no c20 rfl rfl rfl rfl) rfl rfl ?_
      refine DL.not (i := 8) rfl (Wn.no c20 rfl rfl rfl rfl) rfl rfl ?_
      refine DL.not (i := 9) rfl (Wn.no c20 rfl rfl rfl rfl) rfl rfl ?_
      refine DL.not (i := 10) rfl (Wn.no c20 rfl rfl rfl rfl) rfl rfl ?_
      refine DL.not (i := 11) rfl (Wn.no c20 rfl rfl rfl rfl) rfl rfl ?_
      refine DL.not (i := 12) rfl (Wn.no c20 rfl rfl rfl rfl) rfl rfl ?_
      refine DL.not (i := 13) rfl (Wn.no c20 rfl rfl rfl rfl) rfl rfl ?_
      refine DL.pu 29 (.bool false) rfl (p_pick_f c20 rfl rfl rfl) ?_
      obtain rfl := Option.some.inj h28
      exact DL.weak J19 (Sub.cons rfl (Sub.cons rfl (Sub.cons rfl (Sub.cons rfl (Sub.nil _)))))
theorem law03_ScalarSigns.val {a0 : List Int} {a1 : List Int} {r : Bool} (l_a0 : a0.length = 32) (l_a1 : a1.length = 32) (h : law03_ScalarSigns.f a0 a1 = some r) (w : World) : Calls Try.prog 3 #[.agg (enc .u8 a0), .agg (enc .u8 a1)] w fun e w' => e = .returned (.bool r) ∧ Below w.heap.size w w' := calls_value (law03_ScalarSigns.ok l_a0 l_a1 h w)

/-! ### escutcheon/escutcheonlaw03.ScalarIs: function 4 -/
noncomputable def B4 : Code := bodyOf Try.f4
def law03_ScalarIs.f (a0 : List Int) (a1 : List Int) (a2 : List Int) : Option (Bool) := (scalar_MulAdd.f a0 a1 (List.replicate 32 0)).bind fun t6 => (scalar_MulAdd.f a0 a2 (List.replicate 32 0)).bind fun t9 => (scalar_MulAdd.f a1 a0 (List.replicate 32 0)).bind fun t15 => (if (t15 == t6) = true then ((scalar_Add.f a1 a2).bind fun t24 => (scalar_MulAdd.f a0 t24 (List.replicate 32 0)).bind fun t27 => (scalar_Add.f t6 t9).bind fun t30 => some (t27 == t30)) else (some false)).bind fun q18 => (if q18 = true then ((scalar_MulAdd.f t6 a2 (List.replicate 32 0)).bind fun t40 => (scalar_MulAdd.f a1 a2 (List.replicate 32 0)).bind fun t43 => (scalar_MulAdd.f a0 t43 (List.replicate 32 0)).bind fun t46 => some (t40 == t46)) else (some false)).bind fun q34 => (if q34 = true then ((scalar_Add.f a0 a1).bind fun t56 => (scalar_Add.f t56 a2).bind fun t59 => (scalar_Add.f a1 a2).bind fun t62 => (scalar_Add.f a0 t62).bind fun t65 => some (t59 == t65)) else (some false)).bind fun q50 => (if q50 = true then ((scalar_MulAdd.f a0 a1 a2).bind fun t75 => (scalar_Add.f t6 a2).bind fun t78 => some (t75 == t78)) else (some false)).bind fun q69 => (if q69 = true then ((law03_known.f).bind fun t88 => some t88) else (some false)).bind fun q82 => some q82
set_option maxRecDepth 20000 in
theorem law03_ScalarIs.ok {a0 : List Int} {a1 : List Int} {a2 : List Int} {r : Bool} (l_a0 : a0.length = 32) (l_a1 : a1.length = 32) (l_a2 : a2.length = 32) (h : law03_ScalarIs.f a0 a1 a2 = some r) (w : World) : Calls Try.prog 4 #[.agg (enc .u8 a0), .agg (enc .u8 a1), .agg (enc .u8 a2)] w (Post (fun u => u = .bool r) w) := by
  unfold law03_ScalarIs.f at h
  refine calls_of_TT (N := 76) (S := [(0, .agg (enc .u8 a0)), (1, .agg (enc .u8 a1)), (2, .agg (enc .u8 a2))]) (c := B4) Try.func4 rfl rfl rfl (by simp) ?_
  show TT _ _ _ _ _ _ [.code (sub [] B4)] _ _
  refine TT.seq (x := sub [0] B4) (y := sub [1] B4) ?_
  refine TT.region (id := 0) (n := 4) (ops := (opsOf (sub [0] B4))) [(.alloc, none), (.alloc, none), (.alloc, none), (.pure, none)] rfl ?_
  show DL _ _ _ _ _ _ _ _ _ _ [0, 1, 2, 3] _ _
  refine DL.new (ob := .cells (enc .u8 a0) 23) (mk := fun b => ptr b 0) (i := 0) rfl (Wn.none rfl) rfl rfl rfl (f_box (v := .agg (enc .u8 a0)) rfl rfl) ?_
  intro b1 hb1
  refine DL.new (ob := .cells (enc .u8 a1) 23) (mk := fun b => ptr b 0) (i := 1) rfl (Wn.none rfl) rfl rfl rfl (f_box (v := .agg (enc .u8 a1)) rfl rfl) ?_
  intro b2 hb2
  refine DL.new (ob := .cells (enc .u8 a2) 23) (mk := fun b => ptr b 0) (i := 2) rfl (Wn.none rfl) rfl rfl rfl (f_box (v := .agg (enc .u8 a2)) rfl rfl) ?_
  intro b3 hb3
  refine DL.pu 6 (.bool false) rfl (p_assign rfl rfl) ?_
  refine DL.nil ?_
  refine TT.seq (x := sub [1, 0] B4) (y := sub [1, 1] B4) ?_
  refine TT.region (id := 1) (n := 1) (ops := (opsOf (sub [1, 0] B4))) [(.alloc, none)] rfl ?_
  show DL _ _ _ _ _ _ _ _ _ _ [0] _ _
  refine DL.new (ob := .cells (enc .u8 (List.replicate 32 0)) 23) (mk := fun b => ptr b 0) (i := 0) rfl (Wn.none rfl) rfl rfl rfl (f_alloc ty_z23 rfl) ?_
  intro b4 hb4
  refine DL.nil ?_
  refine TT.seq (x := sub [1, 1, 0] B4) (y := sub [1, 1, 1] B4) ?_
  refine TT.regionD (id := 2) (ops := (opsOf (sub [1, 1, 0] B4))) [0, 1, 2, 3, 4, 5, 6, 7, 8, 9, 10, 11] [0, 0, 0, 7, 0, 0, 0, 127, 0, 0, 1023, 2047] [(.look, some 3), (.look, some 2), (.look, some 0), (.quiet, none), (.look, some 3), (.look, some 1), (.look, some 0), (.quiet, none), (.alloc, none), (.alloc, none), (.store, some 108), (.store, some 109)] mixed (by kernel_rfl) ?_
  intro w5 hl5 hj5 hz5
  refine DL.look (v := .agg (enc .u8 a0)) (x := 3) (b := b1) (i := 0) rfl (Wn.none rfl) rfl rfl rfl rfl rfl (List.mem_of_getElem? (i := 3) rfl) (b_loadA ty_a23 ty_s23 (enc_sz l_a0) rfl rfl) ?_
  refine DL.look (v := .agg (enc .u8 a1)) (x := 2) (b := b2) (i := 1) rfl (Wn.none rfl) rfl rfl rfl rfl rfl (List.mem_of_getElem? (i := 2) rfl) (b_loadA ty_a23 ty_s23 (enc_sz l_a1) rfl rfl) ?_
  refine DL.look (v := .agg (enc .u8 (List.replicate 32 0))) (x := 0) (b := b4) (i := 2) rfl (Wn.none rfl) rfl rfl rfl rfl rfl (List.mem_of_getElem? (i := 0) rfl) (b_loadA ty_a23 ty_s23 (enc_sz (List.length_replicate)) rfl rfl) ?_
  obtain ⟨t6, h7, h8⟩ := bind_some h
  have l_t6 := scalar_MulAdd.len l_a0 l_a1 (List.length_replicate) h7
  refine DL.qu 13 (.agg (enc .u8 t6)) rfl (f_call rfl rfl (args_val (vs := [.agg (enc .u8 a0), .agg (enc .u8 a1), .agg (enc .u8 (List.replicate 32 0))]) rfl) (fun w => enter8 _ w) (fun w => scalar_MulAdd.val l_a0 l_a1 (List.length_replicate) h7 w)) ?_
  refine DL.look (v := .agg (enc .u8 a0)) (x := 3) (b := b1) (i := 4) rfl (Wn.none rfl) rfl rfl rfl rfl rfl (List.mem_of_getElem? (i := 3) rfl) (b_loadA ty_a23 ty_s23 (enc_sz l_a0) rfl rfl) ?_
  refine DL.look (v := .agg (enc .u8 a2)) (x := 1) (b := b3) (i := 5) rfl (Wn.none rfl) rfl rfl rfl rfl rfl (List.mem_of_getElem? (i := 1) rfl) (b_loadA ty_a23 ty_s23 (enc_sz l_a2) rfl rfl) ?_
  refine DL.look (v := .agg (enc .u8 (List.replicate 32 0))) (x := 0) (b := b4) (i := 6) rfl (Wn.none rfl) rfl rfl rfl rfl rfl (List.mem_of_getElem? (i := 0) rfl) (b_loadA ty_a23 ty_s23 (enc_sz (List.length_replicate)) rfl rfl) ?_
  obtain ⟨t9, h10, h11⟩ := bind_some h8
  have l_t9 := scalar_MulAdd.len l_a0 l_a2 (List.length_replicate) h10
  refine DL.qu 17 (.agg (enc .u8 t9)) rfl (f_call rfl rfl (args_val (vs := [.agg (enc .u8 a0), .agg (enc .u8 a2), .agg (enc .u8 (List.replicate 32 0))]) rfl) (fun w => enter8 _ w) (fun w => scalar_MulAdd.val l_a0 l_a2 (List.length_replicate) h10 w)) ?_
  refine DL.new (ob := .cells (enc .u8 (List.replicate 32 0)) 23) (mk := fun b => ptr b 0) (i := 8) rfl (Wn.none rfl) rfl rfl rfl (f_alloc ty_z23 rfl) ?_
  intro b12 hb12
  refine DL.new (ob := .cells (enc .u8 (List.replicate 32 0)) 23) (mk := fun b => ptr b 0) (i := 9) rfl (Wn.none rfl) rfl rfl rfl (f_alloc ty_z23 rfl) ?_
  intro b13 hb13
  refine DL.put (H' := [(some b13, .cells (enc .u8 (List.replicate 32 0)) 23 (0, 0)), (some b12, .cells (enc .u8 t6) 23 (0, 0)), (some b4, .cells (enc .u8 (List.replicate 32 0)) 23 (0, 0)), (some b3, .cells (enc .u8 a2) 23 (0, 0)), (some b2, .cells (enc .u8 a1) 23 (0, 0)), (some b1, .cells (enc .u8 a0) 23 (0, 0))]) (i := 10) rfl (Wn.none rfl) rfl rfl (f_storeA (j := 1) ty_s23 rfl (enc_sz l_t6) (enc_sz (List.length_replicate)) (enc_oneCell _ _) rfl rfl rfl) (keep_new (j := 1) hz5 hb12 rfl) ?_
  refine DL.put (H' := [(some b13, .cells (enc .u8 t9) 23 (0, 0)), (some b12, .cells (enc .u8 t6) 23 (0, 0)), (some b4, .cells (enc .u8 (List.replicate 32 0)) 23 (0, 0)), (some b3, .cells (enc .u8 a2) 23 (0, 0)), (some b2, .cells (enc .u8 a1) 23 (0, 0)), (some b1, .cells (enc .u8 a0) 23 (0, 0))]) (i := 11) rfl (Wn.none rfl) rfl rfl (f_storeA (j := 0) ty_s23 rfl (enc_sz l_t9) (enc_sz (List.length_replicate)) (enc_oneCell _ _) rfl rfl rfl) (keep_new (j := 0) hz5 hb13 rfl) ?_
  refine DL.nil' hl5 ?_
  refine TT.seq (x := sub [1, 1, 1, 0] B4) (y := sub [1, 1, 1, 1] B4) ?_
  refine TT.regionD (id := 3) (ops := (opsOf (sub [1, 1, 1, 0] B4))) [0, 1, 2, 3, 4, 5, 6, 7, 8, 9, 10, 11, 12, 13, 14, 15, 16, 17, 18, 19, 20, 21, 22, 23, 24, 25, 26, 27, 28, 29, 30, 31, 32, 33, 34, 35, 36, 37, 38, 39, 40, 41, 42, 43, 44, 45, 46, 47, 48, 49, 50, 51, 52, 53, 54, 55, 56, 57, 58] [0, 0, 0, 7, 0, 31, 63, 127, 127, 127, 895, 127, 4095, 127, 127, 32767, 65535, 131071, 262143, 524287, 524287, 524287, 4194303, 524287, 524287, 524287, 524287, 125829119, 524287, 536870911, 1073741823, 2147483647, 4294967295, 8589934591, 8589934591, 34359738367, 8589934591, 137438953471, 8589934591, 8589934591, 8589934591, 1924145348607, 4398046511103, 8796093022207, 17592186044415, 35184372088831, 70368744177663, 70368744177663, 70368744177663, 562949953421311, 70368744177663, 70368744177663, 4503599627370495, 9007199254740991, 18014398509481983, 36028797018963967, 72057594037927935, 144115188075855871, 288230376151711743] [(.look, some 4), (.look, some 5), (.look, some 2), (.quiet, none), (.look, some 1), (.pure, none), (.pure, none), (.look, some 5), (.look, some 4), (.look, some 3), (.quiet, none), (.look, some 2), (.quiet, none), (.look, some 1), (.look, some 0), (.quiet, none), (.pure, none), (.pure, none), (.pure, none), (.look, some 1), (.look, some 3), (.look, some 2), (.quiet, none), (.look, some 5), (.look, some 4), (.look, some 3), (.look, some 2), (.quiet, none), (.look, some 2), (.quiet, none), (.pure, none), (.pure, none), (.pure, none), (.look, some 5), (.look, some 4), (.quiet, none), (.look, some 3), (.quiet, none), (.look, some 5), (.look, some 4), (.look, some 3), (.quiet, none), (.quiet, none), (.pure, none), (.pure, none), (.pure, none), (.look, some 5), (.look, some 4), (.look, some 3), (.quiet, none), (.look, some 1), (.look, some 3), (.quiet, none), (.pure, none), (.pure, none), (.pure, none), (.quiet, none), (.pure, none), (.pure, none)] mixed (by kernel_rfl) ?_
  intro w14 hl14 hj14 hz14
  refine DL.look (v := .agg (enc .u8 a1)) (x := 4) (b := b2) (i := 0) rfl (Wn.none rfl) rfl rfl rfl rfl rfl (List.mem_of_getElem? (i := 4) rfl) (b_loadA ty_a23 ty_s23 (enc_sz l_a1) rfl rfl) ?_
  refine DL.look (v := .agg (enc .u8 a0)) (x := 5) (b := b1) (i := 1) rfl (Wn.none rfl) rfl rfl rfl rfl rfl (List.mem_of_getElem? (i := 5) rfl) (b_loadA ty_a23 ty_s23 (enc_sz l_a0) rfl rfl) ?_
  refine DL.look (v := .agg (enc .u8 (List.replicate 32 0))) (x := 2) (b := b4) (i := 2) rfl (Wn.none rfl) rfl rfl rfl rfl rfl (List.mem_of_getElem? (i := 2) rfl) (b_loadA ty_a23 ty_s23 (enc_sz (List.length_replicate)) rfl rfl) ?_
  obtain ⟨t15, h16, h17⟩ := bind_some h11
  have l_t15 := scalar_MulAdd.len l_a1 l_a0 (List.length_replicate) h16
  refine DL.qu 21 (.agg (enc .u8 t15)) rfl (f_call rfl rfl (args_val (vs := [.agg (enc .u8 a1), .agg (enc .u8 a0), .agg (enc .u8 (List.replicate 32 0))]) rfl) (fun w => enter8 _ w) (fun w => scalar_MulAdd.val l_a1 l_a0 (List.length_replicate) h16 w)) ?_
  refine DL.look (v := .agg (enc .u8 t6)) (x := 1) (b := b12) (i := 4) rfl (Wn.none rfl) rfl rfl rfl rfl rfl (List.mem_of_getElem? (i := 1) rfl) (b_loadA ty_a23 ty_s23 (enc_sz l_t6) rfl rfl) ?_
  refine DL.pu 23 (.bool (t15 == t6)) rfl (p_eqAgg ty_g23 (fun w => run_eqRow (d := 9998) ty_ue23 ty_s5 ty_a5 ty_ue5 l_t15 l_t6 w) rfl rfl rfl) ?_
  refine DL.pu 24 (.bool (t15 == t6)) rfl (p_move rfl rfl) ?_
  obtain ⟨q18, h19, h20⟩ := bind_some h17
  refine DL.cut [(3, ptr b1 0), (4, ptr b2 0), (5, ptr b3 0), (7, ptr b4 0), (8, ptr b12 0), (35, .bool q18)] [18, 19, 20, 21, 22, 23, 24, 25, 26, 27, 28, 29, 30, 31, 32, 33, 34, 35, 36, 37, 38, 39, 40, 41, 42, 43, 44, 45, 46, 47, 48, 49, 50, 51, 52, 53, 54, 55, 56, 57, 58] ?_ (fun J21 => ?_)
  · refine DL.pu 36 (.bool q18) rfl (p_move rfl rfl) ?_
    obtain ⟨q34, h35, h36⟩ := bind_some h20
    refine DL.cut [(3, ptr b1 0), (4, ptr b2 0), (5, ptr b3 0), (8, ptr b12 0), (49, .bool q34)] [32, 33, 34, 35, 36, 37, 38, 39, 40, 41, 42, 43, 44, 45, 46, 47, 48, 49, 50, 51, 52, 53, 54, 55, 56, 57, 58] ?_ (fun J37 => ?_)
    · refine DL.pu 50 (.bool q34) rfl (p_move rfl rfl) ?_
      obtain ⟨q50, h51, h52⟩ := bind_some h36
      refine DL.cut [(3, ptr b1 0), (4, ptr b2 0), (5, ptr b3 0), (8, ptr b12 0), (62, .bool q50)] [45, 46, 47, 48, 49, 50, 51, 52, 53, 54, 55, 56, 57, 58] ?_ (fun J53 => ?_)
      · refine DL.pu 63 (.bool q50) rfl (p_move rfl rfl) ?_
        obtain ⟨q69, h70, h71⟩ := bind_some h52
        refine DL.cut [(72, .bool q69)] [55, 56, 57, 58] ?_ (fun J72 => ?_)
        · refine DL.pu 73 (.bool q69) rfl (p_move rfl rfl) ?_
          obtain ⟨q82, h83, h84⟩ := bind_some h71
          refine DL.cut [(75, .bool q82)] [58] ?_ (fun J85 => ?_)
          · refine DL.pu 6 (.bool q82) rfl (p_assign rfl rfl) ?_
            refine DL.nil' hl14 ?_
            obtain rfl := Option.some.inj h84
            exact ret1 Try.func4 rfl (ResV.tmp rfl) rfl
          · by_cases c86 : q69 = true
            · have h87 := ite_true c86 h83
              obtain ⟨t88, h89, h90⟩ := bind_some h87
              refine DL.quiet (v := .bool t88) rfl (Wn.yes c86 rfl rfl rfl rfl) rfl rfl rfl (f_call rfl rfl (args_val (vs := []) rfl) (fun w => enter10 _ w) (fun w => law03_known.val h89 w)) ?_
              refine DL.pu 75 (.bool t88) rfl (p_pick_t c86 rfl rfl rfl) ?_
              obtain rfl := Option.some.inj h90
              exact DL.weak J85 (Sub.cons rfl (Sub.nil _))
            · replace c86 := Bool.eq_false_iff.mpr c86
              have h91 := ite_false c86 h83
              refine DL.not (i := 56) rfl (Wn.no c86 rfl rfl rfl rfl) rfl rfl ?_
              refine DL.pu 75 (.bool false) rfl (p_pick_f c86 rfl rfl rfl) ?_
              obtain rfl := Option.some.inj h91
              exact DL.weak J85 (Sub.cons rfl (Sub.nil _))
        · by_cases c73 : q50 = true
          · have h74 := ite_true c73 h70
            refine DL.look (v := .agg (enc .u8 a0)) (x := 5) (b := b1) (i := 46) rfl (Wn.yes c73 rfl rfl rfl rfl) rfl rfl rfl rfl rfl (List.mem_of_getElem? (i := 5) rfl) (b_loadA ty_a23 ty_s23 (enc_sz l_a0) rfl rfl) ?_
            refine DL.look (v := .agg (enc .u8 a1)) (x := 4) (b := b2) (i := 47) rfl (Wn.yes c73 rfl rfl rfl rfl) rfl rfl rfl rfl rfl (List.mem_of_getElem? (i := 4) rfl) (b_loadA ty_a23 ty_s23 (enc_sz l_a1) rfl rfl) ?_
            refine DL.look (v := .agg (enc .u8 a2)) (x := 3) (b := b3) (i := 48) rfl (Wn.yes c73 rfl rfl rfl rfl) rfl rfl rfl rfl rfl (List.mem_of_getElem? (i := 3) rfl) (b_loadA ty_a23 ty_s23 (enc_sz l_a2) rfl rfl) ?_
            obtain ⟨t75, h76, h77⟩ := bind_some h74
            have l_t75 := scalar_MulAdd.len l_a0 l_a1 l_a2 h76
            refine DL.quiet (v := .agg (enc .u8 t75)) rfl (Wn.yes c73 rfl rfl rfl rfl) rfl rfl rfl (f_call rfl rfl (args_val (vs := [.agg (enc .u8 a0), .agg (enc .u8 a1), .agg (enc .u8 a2)]) rfl) (fun w => enter8 _ w) (fun w => scalar_MulAdd.val l_a0 l_a1 l_a2 h76 w)) ?_
            refine DL.look (v := .agg (enc .u8 t6)) (x := 1) (b := b12) (i := 50) rfl (Wn.yes c73 rfl rfl rfl rfl) rfl rfl rfl rfl rfl (List.mem_of_getElem? (i := 1) rfl) (b_loadA ty_a23 ty_s23 (enc_sz l_t6) rfl rfl) ?_
            refine DL.look (v := .agg (enc .u8 a2)) (x := 3) (b := b3) (i := 51) rfl (Wn.yes c73 rfl rfl rfl rfl) rfl rfl rfl rfl rfl (List.mem_of_getElem? (i := 3) rfl) (b_loadA ty_a23 ty_s23 (enc_sz l_a2) rfl rfl) ?_
            obtain ⟨t78, h79, h80⟩ := bind_some h77
            have l_t78 := scalar_Add.len l_t6 l_a2 h79
            refine DL.quiet (v := .agg (enc .u8 t78)) rfl (Wn.yes c73 rfl rfl rfl rfl) rfl rfl rfl (f_call rfl rfl (args_val (vs := [.agg (enc .u8 t6), .agg (enc .u8 a2)]) rfl) (fun w => enter11 _ w) (fun w => scalar_Add.val l_t6 l_a2 h79 w)) ?_
            refine DL.pure (v := .bool (t75 == t78)) rfl (Wn.yes c73 rfl rfl rfl rfl) rfl rfl rfl (p_eqAgg ty_g23 (fun w => run_eqRow (d := 9998) ty_ue23 ty_s5 ty_a5 ty_ue5 l_t75 l_t78 w) rfl rfl rfl) ?_
            refine DL.pu 72 (.bool (t75 == t78)) rfl (p_pick_t c73 rfl rfl rfl) ?_
            obtain rfl := Option.some.inj h80
            exact DL.weak J72 (Sub.cons rfl (Sub.nil _))
          · replace c73 := Bool.eq_false_iff.mpr c73
            have h81 := ite_false c73 h70
            refine DL.not (i := 46) rfl (Wn.no c73 rfl rfl rfl rfl) rfl rfl ?_
            refine DL.not (i := 47) rfl (Wn.no c73 rfl rfl rfl rfl) rfl rfl ?_
            refine DL.not (i := 48) rfl (Wn.no c73 rfl rfl rfl rfl) rfl rfl ?_
            refine DL.not (i := 49) rfl (Wn.no c73 rfl rfl rfl rfl) rfl rfl ?_
            refine DL.not (i := 50) rfl (Wn.no c73 rfl rfl rfl rfl) rfl rfl ?_
            refine DL.not (i := 51) rfl (Wn.no c73 rfl rfl rfl rfl) rfl rfl ?_
            refine DL.not (i := 52) rfl (Wn.no c73 rfl rfl rfl rfl) rfl rfl ?_
            refine DL.not (i := 53) rfl (Wn.no c73 rfl rfl rfl rfl) rfl rfl ?_
            refine DL.pu 72 (.bool false) rfl (p_pick_f c73 rfl rfl rfl) ?_
            obtain rfl := Option.some.inj h81
            exact DL.weak J72 (Sub.cons rfl (Sub.nil _))
      · by_cases c54 : q34 = true
        · have h55 := ite_true c54 h51
          refine DL.look (v := .agg (enc .u8 a0)) (x := 5) (b := b1) (i := 33) rfl (Wn.yes c54 rfl rfl rfl rfl) rfl rfl rfl rfl rfl (List.mem_of_getElem? (i := 5) rfl) (b_loadA ty_a23 ty_s23 (enc_sz l_a0) rfl rfl) ?_
          refine DL.look (v := .agg (enc .u8 a1)) (x := 4) (b := b2) (i := 34) rfl (Wn.yes c54 rfl rfl rfl rfl) rfl rfl rfl rfl rfl (List.mem_of_getElem? (i := 4) rfl) (b_loadA ty_a23 ty_s23 (enc_sz l_a1) rfl rfl) ?_
          obtain ⟨t56, h57, h58⟩ := bind_some h55
          have l_t56 := scalar_Add.len l_a0 l_a1 h57
          refine DL.quiet (v := .agg (enc .u8 t56)) rfl (Wn.yes c54 rfl rfl rfl rfl) rfl rfl rfl (f_call rfl rfl (args_val (vs := [.agg (enc .u8 a0), .agg (enc .u8 a1)]) rfl) (fun w => enter11 _ w) (fun w => scalar_Add.val l_a0 l_a1 h57 w)) ?_
          refine DL.look (v := .agg (enc .u8 a2)) (x := 3) (b := b3) (i := 36) rfl (Wn.yes c54 rfl rfl rfl rfl) rfl rfl rfl rfl rfl (List.mem_of_getElem? (i := 3) rfl) (b_loadA ty_a23 ty_s23 (enc_sz l_a2) rfl rfl) ?_
          obtain ⟨t59, h60, h61⟩ := bind_some h58
          have l_t59 := scalar_Add.len l_t56 l_a2 h60
          refine DL.quiet (v := .agg (enc .u8 t59)) rfl (Wn.yes c54 rfl rfl rfl rfl) rfl rfl rfl (f_call rfl rfl (args_val (vs := [.agg (enc .u8 t56), .agg (enc .u8 a2)]) rfl) (fun w => enter11 _ w) (fun w => scalar_Add.val l_t56 l_a2 h60 w)) ?_
          refine DL.look (v := .agg (enc .u8 a0)) (x := 5) (b := b1) (i := 38) rfl (Wn.yes c54 rfl rfl rfl rfl) rfl rfl rfl rfl rfl (List.mem_of_getElem? (i := 5) rfl) (b_loadA ty_a23 ty_s23 (enc_sz l_a0) rfl rfl) ?_
          refine DL.look (v := .agg (enc .u8 a1)) (x := 4) (b := b2) (i := 39) rfl (Wn.yes c54 rfl rfl rfl rfl) rfl rfl rfl rfl rfl (List.mem_of_getElem? (i := 4) rfl) (b_loadA ty_a23 ty_s23 (enc_sz l_a1) rfl rfl) ?_
          refine DL.look (v := .agg (enc .u8 a2)) (x := 3) (b := b3) (i := 40) rfl (Wn.yes c54 rfl rfl rfl rfl) rfl rfl rfl rfl rfl (List.mem_of_getElem? (i := 3) rfl) (b_loadA ty_a23 ty_s23 (enc_sz l_a2) rfl rfl) ?_
          obtain ⟨t62, h63, h64⟩ := bind_some h61
          have l_t62 := scalar_Add.len l_a1 l_a2 h63
          refine DL.quiet (v := .agg (enc .u8 t62)) rfl (Wn.yes c54 rfl rfl rfl rfl) rfl rfl rfl (f_call rfl rfl (args_val (vs := [.agg (enc .u8 a1), .agg (enc .u8 a2)]) rfl) (fun w => enter11 _ w) (fun w => scalar_Add.val l_a1 l_a2 h63 w)) ?_
          obtain ⟨t65, h66, h67⟩ := bind_some h64
          have l_t65 := scalar_Add.len l_a0 l_t62 h66
          refine DL.quiet (v := .agg (enc .u8 t65)) rfl (Wn.yes c54 rfl rfl rfl rfl) rfl rfl rfl (f_call rfl rfl (args_val (vs := [.agg (enc .u8 a0), .agg (enc .u8 t62)]) rfl) (fun w => enter11 _ w) (fun w => scalar_Add.val l_a0 l_t62 h66 w)) ?_
          refine DL.pure (v := .bool (t59 == t65)) rfl (Wn.yes c54 rfl rfl rfl rfl) rfl rfl rfl (p_eqAgg ty_g23 (fun w => run_eqRow (d := 9998) ty_ue23 ty_s5 ty_a5 ty_ue5 l_t59 l_t65 w) rfl rfl rfl) ?_
          refine DL.pu 62 (.bool (t59 == t65)) rfl (p_pick_t c54 rfl rfl rfl) ?_
          obtain rfl := Option.some.inj h67
          exact DL.weak J53 (Sub.cons rfl (Sub.cons rfl (Sub.cons rfl (Sub.cons rfl (Sub.cons rfl (Sub.nil _))))))
        · replace c54 := Bool.eq_false_iff.mpr c54
          have h68 := ite_false c54 h51
          refine DL.not (i := 33) rfl (Wn.no c54 rfl rfl rfl rfl) rfl rfl ?_
          refine DL.not (i := 34) rfl (Wn.no c54 rfl rfl rfl rfl) rfl rfl ?_
          refine DL.not (i := 35) rfl (Wn.no c54 rfl rfl rfl rfl) rfl rfl ?_
          refine DL.not (i := 36) rfl (Wn.no c54 rfl rfl rfl rfl) rfl rfl ?_
          refine DL.not (i := 37) rfl (Wn.no c54 rfl rfl rfl rfl) rfl rfl ?_
          refine DL.not (i := 38) rfl (Wn.no c54 rfl rfl rfl rfl) rfl rfl ?_
          refine DL.not (i := 39) rfl (Wn.no c54 rfl rfl rfl rfl) rfl rfl ?_
          refine DL.not (i := 40) rfl (Wn.no c54 rfl rfl rfl rfl) rfl rfl ?_
          refine DL.not (i := 41) rfl (Wn.no c54 rfl rfl rfl rfl) rfl rfl ?_
          refine DL.not (i := 42) rfl (Wn.no c54 rfl rfl rfl rfl) rfl rfl ?_
          refine DL.not (i := 43) rfl (Wn.no c54 rfl rfl rfl rfl) rfl rfl ?_
          refine DL.pu 62 (.bool false) rfl (p_pick_f c54 rfl rfl rfl) ?_
          obtain rfl := Option.some.inj h68
          exact DL.weak J53 (Sub.cons rfl (Sub.cons rfl (Sub.cons rfl (Sub.cons rfl (Sub.cons rfl (Sub.nil _))))))
    · by_cases c38 : q18 = true
      · have h39 := ite_true c38 h35
        refine DL.look (v := .agg (enc .u8 t6)) (x := 1) (b := b12) (i := 19) rfl (Wn.yes c38 rfl rfl rfl rfl) rfl rfl rfl rfl rfl (List.mem_of_getElem? (i := 1) rfl) (b_loadA ty_a23 ty_s23 (enc_sz l_t6) rfl rfl) ?_
        refine DL.look (v := .agg (enc .u8 a2)) (x := 3) (b := b3) (i := 20) rfl (Wn.yes c38 rfl rfl rfl rfl) rfl rfl rfl rfl rfl (List.mem_of_getElem? (i := 3) rfl) (b_loadA ty_a23 ty_s23 (enc_sz l_a2) rfl rfl) ?_
        refine DL.look (v := .agg (enc .u8 (List.replicate 32 0))) (x := 2) (b := b4) (i := 21) rfl (Wn.yes c38 rfl rfl rfl rfl) rfl rfl rfl rfl rfl (List.mem_of_getElem? (i := 2) rfl) (b_loadA ty_a23 ty_s23 (enc_sz (List.length_replicate)) rfl rfl) ?_
        obtain ⟨t40, h41, h42⟩ := bind_some h39
        have l_t40 := scalar_MulAdd.len l_t6 l_a2 (List.length_replicate) h41
        refine DL.quiet (v := .agg (enc .u8 t40)) rfl (Wn.yes c38 rfl rfl rfl rfl) rfl rfl rfl (f_call rfl rfl (args_val (vs := [.agg (enc .u8 t6), .agg (enc .u8 a2), .agg (enc .u8 (List.replicate 32 0))]) rfl) (fun w => enter8 _ w) (fun w => scalar_MulAdd.val l_t6 l_a2 (List.length_replicate) h41 w)) ?_
        refine DL.look (v := .agg (enc .u8 a0)) (x := 5) (b := b1) (i := 23) rfl (Wn.yes c38 rfl rfl rfl rfl) rfl rfl rfl rfl rfl (List.mem_of_getElem? (i := 5) rfl) (b_loadA ty_a23 ty_s23 (enc_sz l_a0) rfl rfl) ?_
        refine DL.look (v := .agg (enc .u8 a1)) (x := 4) (b := b2) (i := 24) rfl (Wn.yes c38 rfl rfl rfl rfl) rfl rfl rfl rfl rfl (List.mem_of_getElem? (i := 4) rfl) (b_loadA ty_a23 ty_s23 (enc_sz l_a1) rfl rfl) ?_
        refine DL.look (v := .agg (enc .u8 a2)) (x := 3) (b := b3) (i := 25) rfl (Wn.yes c38 rfl rfl rfl rfl) rfl rfl rfl rfl rfl (List.mem_of_getElem? (i := 3) rfl) (b_loadA ty_a23 ty_s23 (enc_sz l_a2) rfl rfl) ?_
        refine DL.look (v := .agg (enc .u8 (List.replicate 32 0))) (x := 2) (b := b4) (i := 26) rfl (Wn.yes c38 rfl rfl rfl rfl) rfl rfl rfl rfl rfl (List.mem_of_getElem? (i := 2) rfl) (b_loadA ty_a23 ty_s23 (enc_sz (List.length_replicate)) rfl rfl) ?_
        obtain ⟨t43, h44, h45⟩ := bind_some h42
        have l_t43 := scalar_MulAdd.len l_a1 l_a2 (List.length_replicate) h44
        refine DL.quiet (v := .agg (enc .u8 t43)) rfl (Wn.yes c38 rfl rfl rfl rfl) rfl rfl rfl (f_call rfl rfl (args_val (vs := [.agg (enc .u8 a1), .agg (enc .u8 a2), .agg (enc .u8 (List.replicate 32 0))]) rfl) (fun w => enter8 _ w) (fun w => scalar_MulAdd.val l_a1 l_a2 (List.length_replicate) h44 w)) ?_
        refine DL.look (v := .agg (enc .u8 (List.replicate 32 0))) (x := 2) (b := b4) (i := 28) rfl (Wn.yes c38 rfl rfl rfl rfl) rfl rfl rfl rfl rfl (List.mem_of_getElem? (i := 2) rfl) (b_loadA ty_a23 ty_s23 (enc_sz (List.length_replicate)) rfl rfl) ?_
        obtain ⟨t46, h47, h48⟩ := bind_some h45
        have l_t46 := scalar_MulAdd.len l_a0 l_t43 (List.length_replicate) h47
        refine DL.quiet (v := .agg (enc .u8 t46)) rfl (Wn.yes c38 rfl rfl rfl rfl) rfl rfl rfl (f_call rfl rfl (args_val (vs := [.agg (enc .u8 a0), .agg (enc .u8 t43), .agg (enc .u8 (List.replicate 32 0))]) rfl) (fun w => enter8 _ w) (fun w => scalar_MulAdd.val l_a0 l_t43 (List.length_replicate) h47 w)) ?_
        refine DL.pure (v := .bool (t40 == t46)) rfl (Wn.yes c38 rfl rfl rfl rfl) rfl rfl rfl (p_eqAgg ty_g23 (fun w => run_eqRow (d := 9998) ty_ue23 ty_s5 ty_a5 ty_ue5 l_t40 l_t46 w) rfl rfl rfl) ?_
        refine DL.pu 49 (.bool (t40 == t46)) rfl (p_pick_t c38 rfl rfl rfl) ?_
        obtain rfl := Option.some.inj h48
        exact DL.weak J37 (Sub.cons rfl (Sub.cons rfl (Sub.cons rfl (Sub.cons rfl (Sub.cons rfl (Sub.nil _))))))
      · replace c38 := Bool.eq_false_iff.mpr c38
        have h49 := ite_false c38 h35
        refine DL.not (i := 19) rfl (Wn.no c38 rfl rfl rfl rfl) rfl rfl ?_
        refine DL.not (i := 20) rfl (Wn.no c38 rfl rfl rfl rfl) rfl rfl ?_
        refine DL.not (i := 21) rfl (Wn.no c38 rfl rfl rfl rfl) rfl rfl ?_
        refine DL.not (i := 22) rfl (Wn.no c38 rfl rfl rfl rfl) rfl rfl ?_
        refine DL.not (i := 23) rfl (Wn.no c38 rfl rfl rfl rfl) rfl rfl ?_
        refine DL.not (i := 24) rfl (Wn.no c38 rfl rfl rfl rfl) rfl rfl ?_
        refine DL.not (i := 25) rfl (Wn.no c38 rfl rfl rfl rfl) rfl rfl ?_
        refine DL.not (i := 26) rfl (Wn.no c38 rfl rfl rfl rfl) rfl rfl ?_
        refine DL.not (i := 27) rfl (Wn.no c38 rfl rfl rfl rfl) rfl rfl ?_
        refine DL.not (i := 28) rfl (Wn.no c38 rfl rfl rfl rfl) rfl rfl ?_
        refine DL.not (i := 29) rfl (Wn.no c38 rfl rfl rfl rfl) rfl rfl ?_
        refine DL.not (i := 30) rfl (Wn.no c38 rfl rfl rfl rfl) rfl rfl ?_
        refine DL.pu 49 (.bool false) rfl (p_pick_f c38 rfl rfl rfl) ?_
        obtain rfl := Option.some.inj h49
        exact DL.weak J37 (Sub.cons rfl (Sub.cons rfl (Sub.cons rfl (Sub.cons rfl (Sub.cons rfl (Sub.nil _))))))
  · by_cases c22 : (t15 == t6) = true
    · have h23 := ite_true c22 h19
      refine DL.look (v := .agg (enc .u8 a0)) (x := 5) (b := b1) (i := 7) rfl (Wn.yes c22 rfl rfl rfl rfl) rfl rfl rfl rfl rfl (List.mem_of_getElem? (i := 5) rfl) (b_loadA ty_a23 ty_s23 (enc_sz l_a0) rfl rfl) ?_
      refine DL.look (v := .agg (enc .u8 a1)) (x := 4) (b := b2) (i := 8) rfl (Wn.yes c22 rfl rfl rfl rfl) rfl rfl rfl rfl rfl (List.mem_of_getElem? (i := 4) rfl) (b_loadA ty_a23 ty_s23 (enc_sz l_a1) rfl rfl) ?_
      refine DL.look (v := .agg (enc .u8 a2)) (x := 3) (b := b3) (i := 9) rfl (Wn.yes c22 rfl rfl rfl rfl) rfl rfl rfl rfl rfl (List.mem_of_getElem? (i := 3) rfl) (b_loadA ty_a23 ty_s23 (enc_sz l_a2) rfl rfl) ?_
      obtain ⟨t24, h25, h26⟩ := bind_some h23
      have l_t24 := scalar_Add.len l_a1 l_a2 h25
      refine DL.quiet (v := .agg (enc .u8 t24)) rfl (Wn.yes c22 rfl rfl rfl rfl) rfl rfl rfl (f_call rfl rfl (args_val (vs := [.agg (enc .u8 a1), .agg (enc .u8 a2)]) rfl) (fun w => enter11 _ w) (fun w => scalar_Add.val l_a1 l_a2 h25 w)) ?_
      refine DL.look (v := .agg (enc .u8 (List.replicate 32 0))) (x := 2) (b := b4) (i := 11) rfl (Wn.yes c22 rfl rfl rfl rfl) rfl rfl rfl rfl rfl (List.mem_of_getElem? (i := 2) rfl) (b_loadA ty_a23 ty_s23 (enc_sz (List.length_replicate)) rfl rfl) ?_
      obtain ⟨t27, h28, h29⟩ := bind_some h26
      have l_t27 := scalar_MulAdd.len l_a0 l_t24 (List.length_replicate) h28
      refine DL.quiet (v := .agg (enc .u8 t27)) rfl (Wn.yes c22 rfl rfl rfl rfl) rfl rfl rfl (f_call rfl rfl (args_val (vs := [.agg (enc .u8 a0), .agg (enc .u8 t24), .agg (enc .u8 (List.replicate 32 0))]) rfl) (fun w => enter8 _ w) (fun w => scalar_MulAdd.val l_a0 l_t24 (List.length_replicate) h28 w)) ?_
      refine DL.look (v := .agg (enc .u8 t6)) (x := 1) (b := b12) (i := 13) rfl (Wn.yes c22 rfl rfl rfl rfl) rfl rfl rfl rfl rfl (List.mem_of_getElem? (i := 1) rfl) (b_loadA ty_a23 ty_s23 (enc_sz l_t6) rfl rfl) ?_
      refine DL.look (v := .agg (enc .u8 t9)) (x := 0) (b := b13) (i := 14) rfl (Wn.yes c22 rfl rfl rfl rfl) rfl rfl rfl rfl rfl (List.mem_of_getElem? (i := 0) rfl) (b_loadA ty_a23 ty_s23 (enc_sz l_t9) rfl rfl) ?_
      obtain ⟨t30, h31, h32⟩ := bind_some h29
      have l_t30 := scalar_Add.len l_t6 l_t9 h31
      refine DL.quiet (v := .agg (enc .u8 t30)) rfl (Wn.yes c22 rfl rfl rfl rfl) rfl rfl rfl (f_call rfl rfl (args_val (vs := [.agg (enc .u8 t6), .agg (enc .u8 t9)]) rfl) (fun w => enter11 _ w) (fun w => scalar_Add.val l_t6 l_t9 h31 w)) ?_
      refine DL.pure (v := .bool (t27 == t30)) rfl (Wn.yes c22 rfl rfl rfl rfl) rfl rfl rfl (p_eqAgg ty_g23 (fun w => run_eqRow (d := 9998) ty_ue23 ty_s5 ty_a5 ty_ue5 l_t27 l_t30 w) rfl rfl rfl) ?_
      refine DL.pu 35 (.bool (t27 == t30)) rfl (p_pick_t c22 rfl rfl rfl) ?_
      obtain rfl := Option.some.inj h32
      exact DL.weak J21 (Sub.cons rfl (Sub.cons rfl (Sub.cons rfl (Sub.cons rfl (Sub.cons rfl (Sub.cons rfl (Sub.nil _)))))))
    · replace c22 := Bool.eq_false_iff.mpr c22
      have h33 := ite_false c22 h19
      refine DL.not (i := 7) rfl (Wn.no c22 rfl rfl rfl rfl) rfl rfl ?_
      refine DL.not (i := 8) rfl (Wn.no c22 rfl rfl rfl rfl) rfl rfl ?_
      refine DL.not (i := 9) rfl (Wn.no c22 rfl rfl rfl rfl) rfl rfl ?_
      refine DL.not (i := 10) rfl (Wn.no c22 rfl rfl rfl rfl) rfl rfl ?_
      refine DL.not (i := 11) rfl (Wn.no c22 rfl rfl rfl rfl) rfl rfl ?_
      refine DL.not (i := 12) rfl (Wn.no c22 rfl rfl rfl rfl) rfl rfl ?_
      refine DL.not (i := 13) rfl (Wn.no c22 rfl rfl rfl rfl) rfl rfl ?_
      refine DL.not (i := 14) rfl (Wn.no c22 rfl rfl rfl rfl) rfl rfl ?_
      refine DL.not (i := 15) rfl (Wn.no c22 rfl rfl rfl rfl) rfl rfl ?_
      refine DL.not (i := 16) rfl (Wn.no c22 rfl rfl rfl rfl) rfl rfl ?_
      refine DL.pu 35 (.bool false) rfl (p_pick_f c22 rfl rfl rfl) ?_
      obtain rfl := Option.some.inj h33
      exact DL.weak J21 (Sub.cons rfl (Sub.cons rfl (Sub.cons rfl (Sub.cons rfl (Sub.cons rfl (Sub.cons rfl (Sub.nil _)))))))
theorem law03_ScalarIs.val {a0 : List Int} {a1 : List Int} {a2 : List Int} {r : Bool} (l_a0 : a0.length = 32) (l_a1 : a1.length = 32) (l_a2 : a2.length = 32) (h : law03_ScalarIs.f a0 a1 a2 = some r) (w : World) : Calls Try.prog 4 #[.agg (enc .u8 a0), .agg (enc .u8 a1), .agg (enc .u8 a2)] w fun e w' => e = .returned (.bool r) ∧ Below w.heap.size w w' := calls_value (law03_ScalarIs.ok l_a0 l_a1 l_a2 h w)

/-! ### escutcheon/escutcheonlaw03.ScalarWhole: function 5 -/
noncomputable def B5 : Code := bodyOf Try.f5
def law03_ScalarWhole.f (a0 : List Int) (a1 : Int) : Option (Bool) := (scalar_Order.f).bind fun t2 => (scalar_MulAdd.f t2 (a1 :: List.replicate 31 0) (List.replicate 32 0)).bind fun t6 => (if (!(t6 == (List.replicate 32 0))) = true then (some true) else ((scalar_May.f t2).bind fun t16 => some t16)).bind fun q9 => if q9 = true then (some false) else ((scalar_MulAdd.f a0 (1 :: List.replicate 31 0) (List.replicate 32 0)).bind fun t22 => (scalar_May.f a0).bind fun t27 => (if (t27 == (t22 == a0)) = true then ((scalar_MulAdd.f t2 (a1 :: List.replicate 31 0) t22).bind fun t36 => some (t36 == t22)) else (some false)).bind fun q30 => (if q30 = true then ((law03_known.f).bind fun t46 => some t46) else (some false)).bind fun q40 => some q40)
set_option maxRecDepth 20000 in
theorem law03_ScalarWhole.ok {a0 : List Int} {a1 : Int} {r : Bool} (l_a0 : a0.length = 32) (h : law03_ScalarWhole.f a0 a1 = some r) (w : World) : Calls Try.prog 5 #[.agg (enc .u8 a0), .int .u8 a1] w (Post (fun u => u = .bool r) w) := by
  unfold law03_ScalarWhole.f at h
  refine calls_of_TT (N := 41) (S := [(0, .agg (enc .u8 a0)), (1, .int .u8 a1)]) (c := B5) Try.func5 rfl rfl rfl (by simp) ?_
  show TT _ _ _ _ _ _ [.code (sub [] B5)] _ _
  refine TT.seq (x := sub [0] B5) (y := sub [1] B5) ?_
  refine TT.region (id := 0) (n := 2) (ops := (opsOf (sub [0] B5))) [(.alloc, none), (.pure, none)] rfl ?_
  show DL _ _ _ _ _ _ _ _ _ _ [0, 1] _ _
  refine DL.new (ob := .cells (enc .u8 a0) 23) (mk := fun b => ptr b 0) (i := 0) rfl (Wn.none rfl) rfl rfl rfl (f_box (v := .agg (enc .u8 a0)) rfl rfl) ?_
  intro b1 hb1
  refine DL.pu 4 (.bool false) rfl (p_assign rfl rfl) ?_
  refine DL.nil ?_
  refine TT.seq (x := sub [1, 0] B5) (y := sub [1, 1] B5) ?_
  refine TT.region (id := 1) (n := 3) (ops := (opsOf (sub [1, 0] B5))) [(.quiet, none), (.alloc, none), (.store, none)] rfl ?_
  show DL _ _ _ _ _ _ _ _ _ _ [0, 1, 2] _ _
  obtain ⟨t2, h3, h4⟩ := bind_some h
  have l_t2 := scalar_Order.len h3
  refine DL.qu 7 (.agg (enc .u8 t2)) rfl (f_call rfl rfl (args_val (vs := []) rfl) (fun w => enter12 _ w) (fun w => scalar_Order.val h3 w)) ?_
  refine DL.new (ob := .cells (enc .u8 (List.replicate 32 0)) 23) (mk := fun b => ptr b 0) (i := 1) rfl (Wn.none rfl) rfl rfl rfl (f_alloc ty_z23 rfl) ?_
  intro b5 hb5
  refine DL.put (H' := [(some b5, .cells (enc .u8 t2) 23 (0, 0)), (some b1, .cells (enc .u8 a0) 23 (0, 0))]) (i := 2) rfl (Wn.none rfl) rfl rfl (f_storeA (j := 0) ty_s23 rfl (enc_sz l_t2) (enc_sz (List.length_replicate)) (enc_oneCell _ _) rfl rfl rfl) (keep_none rfl) ?_
  refine DL.nil ?_
  refine TT.seq (x := sub [1, 1, 0] B5) (y := sub [1, 1, 1] B5) ?_
  refine TT.seq (x := sub [1, 1, 0, 0] B5) (y := sub [1, 1, 0, 1] B5) ?_
  refine TT.region (id := 2) (n := 11) (ops := (opsOf (sub [1, 1, 0, 0] B5))) [(.quiet, none), (.pure, none), (.pure, none), (.pure, none), (.quiet, none), (.pure, none), (.pure, none), (.pure, none), (.quiet, none), (.quiet, none), (.pure, none)] rfl ?_
  show DL _ _ _ _ _ _ _ _ _ _ [0, 1, 2, 3, 4, 5, 6, 7, 8, 9, 10] _ _
  refine DL.qu 8 (.agg (enc .u8 t2)) rfl (f_loadA (j := 0) ty_a23 ty_s23 rfl (enc_sz l_t2) rfl rfl) ?_
  refine DL.pu 9 (.int .u8 a1) rfl (p_move rfl rfl) ?_
  refine DL.pu 10 (.agg (enc .u8 (a1 :: List.replicate 31 0))) rfl (p_build (vs := [(0, .int .u8 a1)]) (fun w => by kernel_rfl) rfl rfl) ?_
  refine DL.pu 11 (.agg (enc .u8 (List.replicate 32 0))) rfl (p_build (vs := []) (fun w => by kernel_rfl) rfl rfl) ?_
  obtain ⟨t6, h7, h8⟩ := bind_some h4
  have l_t6 := scalar_MulAdd.len l_t2 (by simp) (by simp) h7
  refine DL.qu 12 (.agg (enc .u8 t6)) rfl (f_call rfl rfl (args_val (vs := [.agg (enc .u8 t2), .agg (enc .u8 (a1 :: List.replicate 31 0)), .agg (enc .u8 (List.replicate 32 0))]) rfl) (fun w => enter8 _ w) (fun w => scalar_MulAdd.val l_t2 (by simp) (by simp) h7 w)) ?_
  refine DL.pu 13 (.agg (enc .u8 (List.replicate 32 0))) rfl (p_build (vs := []) (fun w => by kernel_rfl) rfl rfl) ?_
  refine DL.pu 14 (.bool (!(t6 == (List.replicate 32 0)))) rfl (p_neAgg ty_g23 (fun w => run_eqRow (d := 9998) ty_ue23 ty_s5 ty_a5 ty_ue5 l_t6 (by simp) w) rfl rfl rfl) ?_
  refine DL.pu 15 (.bool (!(t6 == (List.replicate 32 0)))) rfl (p_move rfl rfl) ?_
  obtain ⟨q9, h10, h11⟩ := bind_some h8
  refine DL.cut [(1, .int .u8 a1), (2, ptr b1 0), (5, ptr b5 0), (18, .bool q9)] [] ?_ (fun J12 => ?_)
  · refine DL.nil ?_
    by_cases c19 : q9 = true
    · have h20 := ite_true c19 h11
      refine TT.cond_true (x := sub [1, 1, 0, 1, 0] B5) (y := sub [1, 1, 0, 1, 1] B5) rfl c19 ?_
      refine TT.seq (x := sub [1, 1, 0, 1, 0, 0] B5) (y := sub [1, 1, 0, 1, 0, 1] B5) ?_
      refine TT.region (id := 3) (n := 1) (ops := (opsOf (sub [1, 1, 0, 1, 0, 0] B5))) [(.pure, none)] rfl ?_
      show DL _ _ _ _ _ _ _ _ _ _ [0] _ _
      refine DL.pu 4 (.bool false) rfl (p_assign rfl rfl) ?_
      refine DL.nil ?_
      obtain rfl := Option.some.inj h20
      exact ret1 Try.func5 rfl (ResV.tmp rfl) rfl
    · replace c19 := Bool.eq_false_iff.mpr c19
      have h21 := ite_false c19 h11
      refine TT.cond_false (x := sub [1, 1, 0, 1, 0] B5) (y := sub [1, 1, 0, 1, 1] B5) rfl c19 ?_
      refine TT.skip ?_
      refine TT.seq (x := sub [1, 1, 1, 0] B5) (y := sub [1, 1, 1, 1] B5) ?_
      refine TT.region (id := 4) (n := 6) (ops := (opsOf (sub [1, 1, 1, 0] B5))) [(.quiet, none), (.pure, none), (.pure, none), (.quiet, none), (.alloc, none), (.store, none)] rfl ?_
      show DL _ _ _ _ _ _ _ _ _ _ [0, 1, 2, 3, 4, 5] _ _
      refine DL.qu 19 (.agg (enc .u8 a0)) rfl (f_loadA (j := 1) ty_a23 ty_s23 rfl (enc_sz l_a0) rfl rfl) ?_
      refine DL.pu 20 (.agg (enc .u8 (1 :: List.replicate 31 0))) rfl (p_build (vs := [(0, .int .u8 1)]) (fun w => by kernel_rfl) rfl rfl) ?_
      refine DL.pu 21 (.agg (enc .u8 (List.replicate 32 0))) rfl (p_build (vs := []) (fun w => by kernel_rfl) rfl rfl) ?_
      obtain ⟨t22, h23, h24⟩ := bind_some h21
      have l_t22 := scalar_MulAdd.len l_a0 (by simp) (by simp) h23
      refine DL.qu 22 (.agg (enc .u8 t22)) rfl (f_call rfl rfl (args_val (vs := [.agg (enc .u8 a0), .agg (enc .u8 (1 :: List.replicate 31 0)), .agg (enc .u8 (List.replicate 32 0))]) rfl) (fun w => enter8 _ w) (fun w => scalar_MulAdd.val l_a0 (by simp) (by simp) h23 w)) ?_
      refine DL.new (ob := .cells (enc .u8 (List.replicate 32 0)) 23) (mk := fun b => ptr b 0) (i := 4) rfl (Wn.none rfl) rfl rfl rfl (f_alloc ty_z23 rfl) ?_
      intro b25 hb25
      refine DL.put (H' := [(some b25, .cells (enc .u8 t22) 23 (0, 0)), (some b5, .cells (enc .u8 t2) 23 (0, 0)), (some b1, .cells (enc .u8 a0) 23 (0, 0))]) (i := 5) rfl (Wn.none rfl) rfl rfl (f_storeA (j := 0) ty_s23 rfl (enc_sz l_t22) (enc_sz (List.length_replicate)) (enc_oneCell _ _) rfl rfl rfl) (keep_none rfl) ?_
      refine DL.nil ?_
      refine TT.seq (x := sub [1, 1, 1, 1, 0] B5) (y := sub [1, 1, 1, 1, 1] B5) ?_
      refine TT.regionD (id := 5) (ops := (opsOf (sub [1, 1, 1, 1, 0] B5))) [0, 1, 2, 3, 4, 5, 6, 7, 8, 9, 10, 11, 12, 13, 14, 15, 16, 17, 18] [0, 1, 0, 0, 12, 31, 63, 127, 127, 383, 127, 2047, 127, 8191, 16383, 32767, 65535, 131071, 262143] [(.look, some 2), (.quiet, none), (.look, some 0), (.look, some 2), (.pure, none), (.pure, none), (.pure, none), (.look, some 1), (.pure, none), (.pure, none), (.look, some 0), (.quiet, none), (.look, some 0), (.pure, none), (.pure, none), (.pure, none), (.quiet, none), (.pure, none), (.pure, none)] mixed (by kernel_rfl) ?_
      intro w26 hl26 hj26 hz26
      refine DL.look (v := .agg (enc .u8 a0)) (x := 2) (b := b1) (i := 0) rfl (Wn.none rfl) rfl rfl rfl rfl rfl (List.mem_of_getElem? (i := 2) rfl) (b_loadA ty_a23 ty_s23 (enc_sz l_a0) rfl rfl) ?_
      obtain ⟨t27, h28, h29⟩ := bind_some h24
      refine DL.qu 24 (.bool t27) rfl (f_call rfl rfl (args_val (vs := [.agg (enc .u8 a0)]) rfl) (fun w => enter13 _ w) (fun w => scalar_May.val l_a0 h28 w)) ?_
      refine DL.look (v := .agg (enc .u8 t22)) (x := 0) (b := b25) (i := 2) rfl (Wn.none rfl) rfl rfl rfl rfl rfl (List.mem_of_getElem? (i := 0) rfl) (b_loadA ty_a23 ty_s23 (enc_sz l_t22) rfl rfl) ?_
      refine DL.look (v := .agg (enc .u8 a0)) (x := 2) (b := b1) (i := 3) rfl (Wn.none rfl) rfl rfl rfl rfl rfl (List.mem_of_getElem? (i := 2) rfl) (b_loadA ty_a23 ty_s23 (enc_sz l_a0) rfl rfl) ?_
      refine DL.pu 27 (.bool (t22 == a0)) rfl (p_eqAgg ty_g23 (fun w => run_eqRow (d := 9998) ty_ue23 ty_s5 ty_a5 ty_ue5 l_t22 l_a0 w) rfl rfl rfl) ?_
      refine DL.pu 28 (.bool (t27 == (t22 == a0))) rfl (p_eqb ty_u4 rfl rfl rfl) ?_
      refine DL.pu 29 (.bool (t27 == (t22 == a0))) rfl (p_move rfl rfl) ?_
      obtain ⟨q30, h31, h32⟩ := bind_some h29
      refine DL.cut [(37, .bool q30)] [15, 16, 17, 18] ?_ (fun J33 => ?_)
      · refine DL.pu 38 (.bool q30) rfl (p_move rfl rfl) ?_
        obtain ⟨q40, h41, h42⟩ := bind_some h32
        refine DL.cut [(40, .bool q40)] [18] ?_ (fun J43 => ?_)
        · refine DL.pu 4 (.bool q40) rfl (p_assign rfl rfl) ?_
          refine DL.nil' hl26 ?_
          obtain rfl := Option.some.inj h42
          exact ret1 Try.func5 rfl (ResV.tmp rfl) rfl
        · by_cases c44 : q30 = true
          · have h45 := ite_true c44 h41
            obtain ⟨t46, h47, h48⟩ := bind_some h45
            refine DL.quiet (v := .bool t46) rfl (Wn.yes c44 rfl rfl rfl rfl) rfl rfl rfl (f_call rfl rfl (args_val (vs := []) rfl) (fun w => enter10 _ w) (fun w => law03_known.val h47 w)) ?_
            refine DL.pu 40 (.bool t46) rfl (p_pick_t c44 rfl rfl rfl) ?_
            obtain rfl := Option.some.inj h48
            exact DL.weak J43 (Sub.cons rfl (Sub.nil _))
          · replace c44 := Bool.eq_false_iff.mpr c44
            have h49 := ite_false c44 h41
            refine DL.not (i := 16) rfl (Wn.no c44 rfl rfl rfl rfl) rfl rfl ?_
            refine DL.pu 40 (.bool false) rfl (p_pick_f c44 rfl rfl rfl) ?_
            obtain rfl := Option.some.inj h49
            exact DL.weak J43 (Sub.cons rfl (Sub.nil _))
      · by_cases c34 : (t27 == (t22 == a0)) = true
        · have h35 := ite_true c34 h31
          refine DL.look (v := .agg (enc .u8 t2)) (x := 1) (b := b5) (i := 7) rfl (Wn.yes c34 rfl rfl rfl rfl) rfl rfl rfl rfl rfl (List.mem_of_getElem? (i := 1) rfl) (b_loadA ty_a23 ty_s23 (enc_sz l_t2) rfl rfl) ?_
          refine DL.pure (v := .int .u8 a1) rfl (Wn.yes c34 rfl rfl rfl rfl) rfl rfl rfl (p_move rfl rfl) ?_
          refine DL.pure (v := .agg (enc .u8 (a1 :: List.replicate 31 0))) rfl (Wn.yes c34 rfl rfl rfl rfl) rfl rfl rfl (p_build (vs := [(0, .int .u8 a1)]) (fun w => by kernel_rfl) rfl rfl) ?_
          refine DL.look (v := .agg (enc .u8 t22)) (x := 0) (b := b25) (i := 10) rfl (Wn.yes c34 rfl rfl rfl rfl) rfl rfl rfl rfl rfl (List.mem_of_getElem? (i := 0) rfl) (b_loadA ty_a23 ty_s23 (enc_sz l_t22) rfl rfl) ?_
          obtain ⟨t36, h37, h38⟩ := bind_some h35
          have l_t36 := scalar_MulAdd.len l_t2 (by simp) l_t22 h37
          refine DL.quiet (v := .agg (enc .u8 t36)) rfl (Wn.yes c34 rfl rfl rfl rfl) rfl rfl rfl (f_call rfl rfl (args_val (vs := [.agg (enc .u8 t2), .agg (enc .u8 (a1 :: List.replicate 31 0)), .agg (enc .u8 t22)]) rfl) (fun w => enter8 _ w) (fun w => scalar_MulAdd.val l_t2 (by simp) l_t22 h37 w)) ?_
          refine DL.look (v := .agg (enc .u8 t22)) (x := 0) (b := b25) (i := 12) rfl (Wn.yes c34 rfl rfl rfl rfl) rfl rfl rfl rfl rfl (List.mem_of_getElem? (i := 0) rfl) (b_loadA ty_a23 ty_s23 (enc_sz l_t22) rfl rfl) ?_
          refine DL.pure (v := .bool (t36 == t22)) rfl (Wn.yes c34 rfl rfl rfl rfl) rfl rfl rfl (p_eqAgg ty_g23 (fun w => run_eqRow (d := 9998) ty_ue23 ty_s5 ty_a5 ty_ue5 l_t36 l_t22 w) rfl rfl rfl) ?_
          refine DL.pu 37 (.bool (t36 == t22)) rfl (p_pick_t c34 rfl rfl rfl) ?_
          obtain rfl := Option.some.inj h38
          exact DL.weak J33 (Sub.cons rfl (Sub.nil _))
        · replace c34 := Bool.eq_false_iff.mpr c34
          have h39 := ite_false c34 h31
          refine DL.not (i := 7) rfl (Wn.no c34 rfl rfl rfl rfl) rfl rfl ?_
          refine DL.not (i := 8) rfl (Wn.no c34 rfl rfl rfl rfl) rfl rfl ?_
          refine DL.not (i := 9) rfl (Wn.no c34 rfl rfl rfl rfl) rfl rfl ?_
          refine DL.not (i := 10) rfl (Wn.no c34 rfl rfl rfl rfl) rfl rfl ?_
          refine DL.not (i := 11) rfl (Wn.no c34 rfl rfl rfl rfl) rfl rfl ?_
          refine DL.not (i := 12) rfl (Wn.no c34 rfl rfl rfl rfl) rfl rfl ?_
          refine DL.not (i := 13) rfl (Wn.no c34 rfl rfl rfl rfl) rfl rfl ?_
          refine DL.pu 37 (.bool false) rfl (p_pick_f c34 rfl rfl rfl) ?_
          obtain rfl := Option.some.inj h39
          exact DL.weak J33 (Sub.cons rfl (Sub.nil _))
  · by_cases c13 : (!(t6 == (List.replicate 32 0))) = true
    · have h14 := ite_true c13 h10
      refine DL.not (i := 8) rfl (Wn.yes c13 rfl rfl rfl rfl) rfl rfl ?_
      refine DL.not (i := 9) rfl (Wn.yes c13 rfl rfl rfl rfl) rfl rfl ?_
      refine DL.pu 18 (.bool true) rfl (p_pick_t c13 rfl rfl rfl) ?_
      obtain rfl := Option.some.inj h14
      exact DL.weak J12 (Sub.cons rfl (Sub.cons rfl (Sub.cons rfl (Sub.cons rfl (Sub.nil _)))))
    · replace c13 := Bool.eq_false_iff.mpr c13
      have h15 := ite_false c13 h10
      refine DL.quiet (v := .agg (enc .u8 t2)) rfl (Wn.no c13 rfl rfl rfl rfl) rfl rfl rfl (f_loadA (j := 0) ty_a23 ty_s23 rfl (enc_sz l_t2) rfl rfl) ?_
      obtain ⟨t16, h17, h18⟩ := bind_some h15
      refine DL.quiet (v := .bool t16) rfl (Wn.no c13 rfl rfl rfl rfl) rfl rfl rfl (f_call rfl rfl (args_val (vs := [.agg (enc .u8 t2)]) rfl) (fun w => enter13 _ w) (fun w => scalar_May.val l_t2 h17 w)) ?_
      refine DL.pu 18 (.bool t16) rfl (p_pick_f c13 rfl rfl rfl) ?_
      obtain rfl := Option.some.inj h18
      exact DL.weak J12 (Sub.cons rfl (Sub.cons rfl (Sub.cons rfl (Sub.cons rfl (Sub.nil _)))))
theorem law03_ScalarWhole.val {a0 : List Int} {a1 : Int} {r : Bool} (l_a0 : a0.length = 32) (h : law03_ScalarWhole.f a0 a1 = some r) (w : World) : Calls Try.prog 5 #[.agg (enc .u8 a0), .int .u8 a1] w fun e w' => e = .returned (.bool r) ∧ Below w.heap.size w w' := calls_value (law03_ScalarWhole.ok l_a0 h w)

end Go.Proofs.Ytillmeddkdcenaa
