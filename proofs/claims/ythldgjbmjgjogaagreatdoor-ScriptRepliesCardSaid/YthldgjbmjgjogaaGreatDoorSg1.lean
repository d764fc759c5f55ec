import Derived.Test.YthldgjbmjgjogaaGreatDoorSnKn
namespace Go.Proofs.YthldgjbmjgjogaaGreatDoor
open Go Go.HW Go.RowKit
set_option linter.unusedVariables false
set_option linter.unusedSimpArgs false

theorem enter17 (args : Array Value) (w : World) : (callFunc 17 args).run Tryz.prog w = .ok (.enter 17 args) w:=by kernel_rfl
theorem enter8 (args : Array Value) (w : World) : (callFunc 8 args).run Tryz.prog w = .ok (.enter 8 args) w:=by kernel_rfl
theorem enter14 (args : Array Value) (w : World) : (callFunc 14 args).run Tryz.prog w = .ok (.enter 14 args) w:=by kernel_rfl
theorem ty_a62 (w : World) : (isAgg 62).run Tryz.prog w = .ok true w:=by kernel_rfl
theorem ty_s62 (w : World) : (sizeOf 62).run Tryz.prog w = .ok 4 w:=by kernel_rfl
theorem enter24 (args : Array Value) (w : World) : (callFunc 24 args).run Tryz.prog w = .ok (.enter 24 args) w:=by kernel_rfl
theorem enter7 (args : Array Value) (w : World) : (callFunc 7 args).run Tryz.prog w = .ok (.enter 7 args) w:=by kernel_rfl
theorem enter25 (args : Array Value) (w : World) : (callFunc 25 args).run Tryz.prog w = .ok (.enter 25 args) w:=by kernel_rfl
theorem enter26 (args : Array Value) (w : World) : (callFunc 26 args).run Tryz.prog w = .ok (.enter 26 args) w:=by kernel_rfl
theorem enter27 (args : Array Value) (w : World) : (callFunc 27 args).run Tryz.prog w = .ok (.enter 27 args) w:=by kernel_rfl
/-! ### escutcheon/escutcheonlaw31.known: function 7 -/
noncomputable def B7 : Code:=bodyOf Tryz.f7
def law31_known.f : Option (Bool):=(script_ActText.f (Act.mk 2 0 0 0 0 0 z0 z0 (Cmd.mk 0 3 5 0 0 0 z0 z0) z0 z0)).bind fun (t1_0,t1_1) => (script_ActText.f (Act.mk 5 1 7 0 0 0 z0 z0 zC z0 z0)).bind fun (t4_0,t4_1) => nm (t1_0 == [115,101,110,100,32,48,32,105,110,102,111,32,53]) fun t8 => (if t8 = true then (some (t4_0 == [116,97,107,101,32,49,32,55])) else (some false)).bind fun q12 => (if q12 = true then ((law31_num.f t1_1).bind fun t26 => (law31_num.f t4_1).bind fun t29 => some ((IntKind.i64.wrap (t26 + t29)) == 0)) else (some false)).bind fun q20 => (if q20 = true then ((law31_num.f 4).bind fun t40 => some (t40 == 4)) else (some false)).bind fun q34 => some q34
set_option maxRecDepth 20000 in
theorem law31_known.ok {r : Bool} (h : law31_known.f = some r) {M : Mem} (w : World) (hM : Ext M (heapOf w)) (hG : GlobE M) : Calls Tryz.prog 7 #[] w (Post (fun u => u = .bool r) w):=by
 unfold law31_known.f at h
 have hE:=Env.start hM
 refine calls_of_TT (N:=41) (S:=[]) (c:=B7) Tryz.func7 rfl rfl rfl (by simp) ?_
 show TT _ _ _ _ _ _ [.code (sub [] B7)] _ _
 refine TT.sq rfl ?_
 refine TT.rg [0] [kp] rfl rfl ?_
 refine DL.pu 0 (.bool false) rfl (p_assign rfl rfl) ?_
 refine DL.nil ?_
 refine TT.sq rfl ?_
 refine TT.rg [0,1,2,3,4,5,6,7] [kp,kp,kq,kp,kp,kp,kp,kp] rfl rfl ?_
 refine DL.pu 8 (.agg (Cmd.ce (Cmd.mk 0 3 5 0 0 0 z0 z0) nS)) rfl (p_build (vs:=[(1,.int .i64 3),(2,.int .u32 5)]) (fun w => by kernel_rfl) rfl rfl) ?_
 refine DL.pu 9 (.agg (Act.ce (Act.mk 2 0 0 0 0 0 z0 z0 (Cmd.mk 0 3 5 0 0 0 z0 z0) z0 z0) nS nS nS)) rfl (p_build (vs:=[(0,.int .i64 2),(8,.agg (Cmd.ce (Cmd.mk 0 3 5 0 0 0 z0 z0) nS))]) (fun w => by kernel_rfl) rfl rfl) ?_
 obtain ⟨⟨t1_0,t1_1⟩,h2,h3⟩:=bind_some h
 refine DL.qu 10 (.tuple #[str t1_0,.int .i64 t1_1]) rfl (f_callR rfl rfl (args_val (vs:=[.agg (Act.ce (Act.mk 2 0 0 0 0 0 z0 z0 (Cmd.mk 0 3 5 0 0 0 z0 z0) z0 z0) nS nS nS)]) rfl) (fun w => enter17 _ w) (fun w hc => script_ActText.val h2 (M:=M) w (hE.ext hc) hG.g (IntRow.nil .u8 M) (IntRow.nil .u8 M) (IntRow.nil .i64 M))) ?_
 refine DL.mv 7 (.tuple #[str t1_0,.int .i64 t1_1]) rfl rfl rfl ?_
 refine DL.pu 11 (str t1_0) rfl (p_extract rfl rfl rfl) ?_
 refine DL.pu 12 (.int .i64 t1_1) rfl (p_extract rfl rfl rfl) ?_
 refine DL.pu 1 (str t1_0) rfl (p_assign rfl rfl) ?_
 refine DL.pu 2 (.int .i64 t1_1) rfl (p_assign rfl rfl) ?_
 refine DL.nil ?_
 refine TT.sq rfl ?_
 refine TT.rg [0,1,2,3,4,5,6] [kp,kq,kp,kp,kp,kp,kp] rfl rfl ?_
 refine DL.pu 14 (.agg (Act.ce (Act.mk 5 1 7 0 0 0 z0 z0 zC z0 z0) nS nS nS)) rfl (p_build (vs:=[(0,.int .i64 5),(1,.int .i64 1),(2,.int .i64 7)]) (fun w => by kernel_rfl) rfl rfl) ?_
 obtain ⟨⟨t4_0,t4_1⟩,h5,h6⟩:=bind_some h3
 refine DL.qu 15 (.tuple #[str t4_0,.int .i64 t4_1]) rfl (f_callR rfl rfl (args_val (vs:=[.agg (Act.ce (Act.mk 5 1 7 0 0 0 z0 z0 zC z0 z0) nS nS nS)]) rfl) (fun w => enter17 _ w) (fun w hc => script_ActText.val h5 (M:=M) w (hE.ext hc) hG.g (IntRow.nil .u8 M) (IntRow.nil .u8 M) (IntRow.nil .i64 M))) ?_
 refine DL.mv 13 (.tuple #[str t4_0,.int .i64 t4_1]) rfl rfl rfl ?_
 refine DL.pu 16 (str t4_0) rfl (p_extract rfl rfl rfl) ?_
 refine DL.pu 17 (.int .i64 t4_1) rfl (p_extract rfl rfl rfl) ?_
 refine DL.pu 3 (str t4_0) rfl (p_assign rfl rfl) ?_
 refine DL.pu 4 (.int .i64 t4_1) rfl (p_assign rfl rfl) ?_
 refine DL.nil ?_
 refine TT.sq rfl ?_
 refine TT.rg [0,1,2,3,4,5,6] [kq,kp,kp,kp,kA,kS,kp] rfl rfl ?_
 refine DL.qu 19 (.tuple #[.agg (Act.ce (Act.mk 0 0 0 0 0 0 z0 z0 zC z0 z0) nS nS nS),.int .i64 4]) rfl (f_callR rfl rfl (args_val (vs:=[str [103,105,118,101,32,49]]) rfl) (fun w => enter8 _ w) (fun w hc => actOf_give1 w (hE.ext hc) hG)) ?_
 refine DL.mv 18 (.tuple #[.agg (Act.ce (Act.mk 0 0 0 0 0 0 z0 z0 zC z0 z0) nS nS nS),.int .i64 4]) rfl rfl rfl ?_
 refine DL.pu 20 (.agg (Act.ce (Act.mk 0 0 0 0 0 0 z0 z0 zC z0 z0) nS nS nS)) rfl (p_extract rfl rfl rfl) ?_
 refine DL.pu 21 (.int .i64 4) rfl (p_extract rfl rfl rfl) ?_
 refine DL.new (ob:=.cells ((Act.ce (Act.mk 0 0 0 0 0 0 z0 z0 zC z0 z0) nS nS nS)) 36) (mk:=fun b => ptr b 0) (i:=4) rfl (Wn.none rfl) rfl rfl rfl (f_alloc ty_z36 rfl) ?_
 intro b7 hb7
 refine DL.put (H':=[(some b7,.cells ((Act.ce (Act.mk 0 0 0 0 0 0 z0 z0 zC z0 z0) nS nS nS)) 36 (0,0))]) (i:=5) rfl (Wn.none rfl) rfl rfl (f_storeA (j:=0) ty_s36 rfl rfl rfl (act_one (sl_one (RowV.sl (IntRow.nil .u8 M))) (sl_one (RowV.sl (IntRow.nil .u8 M))) (sl_one (RowV.sl (IntRow.nil .i64 M)))) rfl rfl rfl) (keep_none rfl) ?_
 refine DL.pu 6 (.int .i64 4) rfl (p_assign rfl rfl) ?_
 refine DL.nil ?_
 refine TT.sq rfl ?_
 refine TT.rg [0,1,2,3,4,5,6,7,8,9,10,11,12,13,14,15,16,17,18,19] [kp,kp,kp,kp,kp,kp,kp,kp,kq,kp,kq,kp,kp,kp,kp,kp,kq,kp,kp,kp] rfl rfl ?_
 refine DL.mv 22 (str t1_0) rfl rfl rfl ?_
 obtain ⟨t8,e9,h10⟩:=nm_some h6
 refine DL.pu 23 (.bool t8) rfl (by rw [e9]; exact p_strEq rfl rfl rfl) ?_
 refine DL.mv 24 (.bool t8) rfl rfl rfl ?_
 obtain ⟨q12,h13,h14⟩:=bind_some h10
 refine DL.cut [(2,.int .i64 t1_1),(4,.int .i64 t4_1),(6,.int .i64 4),(27,.bool q12)] [6,7,8,9,10,11,12,13,14,15,16,17,18,19] ?_ (fun J15 => ?_)
 ·
  refine DL.mv 28 (.bool q12) rfl rfl rfl ?_
  obtain ⟨q20,h21,h22⟩:=bind_some h14
  refine DL.cut [(6,.int .i64 4),(35,.bool q20)] [14,15,16,17,18,19] ?_ (fun J23 => ?_)
  ·
   refine DL.mv 36 (.bool q20) rfl rfl rfl ?_
   obtain ⟨q34,h35,h36⟩:=bind_some h22
   refine DL.cut [(40,.bool q34)] [19] ?_ (fun J37 => ?_)
   ·
    refine DL.pu 0 (.bool q34) rfl (p_assign rfl rfl) ?_
    refine DL.nil ?_
    obtain rfl:=Option.some.inj h36
    exact retnE (rs:=[.tmp 0]) (vs:=[.bool q34]) hE.base Tryz.func7 rfl rfl rfl (res_cons (ResV.tmp rfl) res_nil) rfl
   ·
    by_cases c38 : q20 = true
    ·
     have h39:=ite_true c38 h35
     refine DL.pure (v:=.int .i64 4) rfl (Wn.yes c38 rfl rfl rfl rfl) rfl rfl rfl (p_move rfl rfl) ?_
     obtain ⟨t40,h41,h42⟩:=bind_some h39
     refine DL.quiet (v:=.int .i64 t40) rfl (Wn.yes c38 rfl rfl rfl rfl) rfl rfl rfl (f_callR rfl rfl (args_val (vs:=[.int .i64 4]) rfl) (fun w => enter14 _ w) (fun w hc => law31_num.val h41 (M:=M) w (hE.ext hc) )) ?_
     refine DL.pure (v:=.bool (t40 == 4)) rfl (Wn.yes c38 rfl rfl rfl rfl) rfl rfl rfl (p_eql rfl rfl rfl) ?_
     refine DL.pu 40 (.bool (t40 == 4)) rfl (p_pick_t c38 rfl rfl rfl) ?_
     obtain rfl:=Option.some.inj h42
     exact DL.weak J37 (Sub.cons rfl (Sub.nil _))
    ·
     replace c38:=Bool.eq_false_iff.mpr c38
     have h43:=ite_false c38 h35
     refine DL.not rfl (Wn.no c38 rfl rfl rfl rfl) rfl rfl ?_
     refine DL.not rfl (Wn.no c38 rfl rfl rfl rfl) rfl rfl ?_
     refine DL.not rfl (Wn.no c38 rfl rfl rfl rfl) rfl rfl ?_
     refine DL.pu 40 (.bool false) rfl (p_pick_f c38 rfl rfl rfl) ?_
     obtain rfl:=Option.some.inj h43
     exact DL.weak J37 (Sub.cons rfl (Sub.nil _))
  ·
   by_cases c24 : q12 = true
   ·
    have h25:=ite_true c24 h21
    refine DL.pure (v:=.int .i64 t1_1) rfl (Wn.yes c24 rfl rfl rfl rfl) rfl rfl rfl (p_move rfl rfl) ?_
    obtain ⟨t26,h27,h28⟩:=bind_some h25
    refine DL.quiet (v:=.int .i64 t26) rfl (Wn.yes c24 rfl rfl rfl rfl) rfl rfl rfl (f_callR rfl rfl (args_val (vs:=[.int .i64 t1_1]) rfl) (fun w => enter14 _ w) (fun w hc => law31_num.val h27 (M:=M) w (hE.ext hc) )) ?_
    refine DL.pure (v:=.int .i64 t4_1) rfl (Wn.yes c24 rfl rfl rfl rfl) rfl rfl rfl (p_move rfl rfl) ?_
    obtain ⟨t29,h30,h31⟩:=bind_some h28
    refine DL.quiet (v:=.int .i64 t29) rfl (Wn.yes c24 rfl rfl rfl rfl) rfl rfl rfl (f_callR rfl rfl (args_val (vs:=[.int .i64 t4_1]) rfl) (fun w => enter14 _ w) (fun w hc => law31_num.val h30 (M:=M) w (hE.ext hc) )) ?_
    refine DL.pure (v:=.int .i64 (IntKind.i64.wrap (t26 + t29))) rfl (Wn.yes c24 rfl rfl rfl rfl) rfl rfl rfl (p_add rfl rfl rfl) ?_
    refine DL.pure (v:=.bool ((IntKind.i64.wrap (t26 + t29)) == 0)) rfl (Wn.yes c24 rfl rfl rfl rfl) rfl rfl rfl (p_eql rfl rfl rfl) ?_
    refine DL.pu 35 (.bool ((IntKind.i64.wrap (t26 + t29)) == 0)) rfl (p_pick_t c24 rfl rfl rfl) ?_
    obtain rfl:=Option.some.inj h31
    exact DL.weak J23 (Sub.cons rfl (Sub.cons rfl (Sub.nil _)))
   ·
    replace c24:=Bool.eq_false_iff.mpr c24
    have h32:=ite_false c24 h21
    refine DL.not rfl (Wn.no c24 rfl rfl rfl rfl) rfl rfl ?_
    refine DL.not rfl (Wn.no c24 rfl rfl rfl rfl) rfl rfl ?_
    refine DL.not rfl (Wn.no c24 rfl rfl rfl rfl) rfl rfl ?_
    refine DL.not rfl (Wn.no c24 rfl rfl rfl rfl) rfl rfl ?_
    refine DL.not rfl (Wn.no c24 rfl rfl rfl rfl) rfl rfl ?_
    refine DL.not rfl (Wn.no c24 rfl rfl rfl rfl) rfl rfl ?_
    refine DL.pu 35 (.bool false) rfl (p_pick_f c24 rfl rfl rfl) ?_
    obtain rfl:=Option.some.inj h32
    exact DL.weak J23 (Sub.cons rfl (Sub.cons rfl (Sub.nil _)))
 ·
  by_cases c16 : t8 = true
  ·
   have h17:=ite_true c16 h13
   refine DL.pure (v:=str t4_0) rfl (Wn.yes c16 rfl rfl rfl rfl) rfl rfl rfl (p_move rfl rfl) ?_
   refine DL.pure (v:=.bool (t4_0 == [116,97,107,101,32,49,32,55])) rfl (Wn.yes c16 rfl rfl rfl rfl) rfl rfl rfl (p_strEq rfl rfl rfl) ?_
   refine DL.pu 27 (.bool (t4_0 == [116,97,107,101,32,49,32,55])) rfl (p_pick_t c16 rfl rfl rfl) ?_
   obtain rfl:=Option.some.inj h17
   exact DL.weak J15 (Sub.cons rfl (Sub.cons rfl (Sub.cons rfl (Sub.cons rfl (Sub.nil _)))))
  ·
   replace c16:=Bool.eq_false_iff.mpr c16
   have h18:=ite_false c16 h13
   refine DL.not rfl (Wn.no c16 rfl rfl rfl rfl) rfl rfl ?_
   refine DL.not rfl (Wn.no c16 rfl rfl rfl rfl) rfl rfl ?_
   refine DL.pu 27 (.bool false) rfl (p_pick_f c16 rfl rfl rfl) ?_
   obtain rfl:=Option.some.inj h18
   exact DL.weak J15 (Sub.cons rfl (Sub.cons rfl (Sub.cons rfl (Sub.cons rfl (Sub.nil _)))))
theorem law31_known.val {r : Bool} (h : law31_known.f = some r) {M : Mem} (w : World) (hM : Ext M (heapOf w)) (hG : GlobE M) : Calls Tryz.prog 7 #[] w fun e w' => e = .returned (.bool r) ∧ Below w.heap.size w w' :=
 calls_value (law31_known.ok h w hM hG)

/-! ### escutcheon/escutcheonlaw31.ScriptReplies: function 5 -/
noncomputable def B5 : Code:=bodyOf Tryz.f5
def law31_ScriptReplies.f (a0 : Reply) (a1 : Int) : Option (Bool):=(ref20_Big.f a0).bind fun t2 => if t2 = true then ((law31_known.f).bind fun t7 => some t7) else ((script_ReplyText.f a0).bind fun t12 => (ref31_ReplyText.f a0).bind fun t15 => (if (t12 == t15) = true then (some true) else (some false)).bind fun q19 => (if q19 = true then (some true) else (some false)).bind fun q27 => (if q27 = true then ((law31_known.f).bind fun t41 => some t41) else (some false)).bind fun q35 => some q35)
set_option maxRecDepth 20000 in
theorem law31_ScriptReplies.ok {a0 : Reply} {a1 : Int} {a0_3 : Value} {r : Bool} (h : law31_ScriptReplies.f a0 a1 = some r) {M : Mem} (w : World) (hM : Ext M (heapOf w)) (hG : GlobE M) (hr_a0_3 : RowS (Sh.ints .u8) M a0_3 (Reply.parts a0)) : Calls Tryz.prog 5 #[.agg #[.int .u64 (Reply.num a0),.int .i64 (Reply.code a0),.int .u32 (Reply.handle a0),a0_3],.int .i64 a1] w (Post (fun u => u = .bool r) w):=by
 unfold law31_ScriptReplies.f at h
 have hE:=Env.start hM
 refine calls_of_TT (N:=23) (S:=[(0,.agg #[.int .u64 (Reply.num a0),.int .i64 (Reply.code a0),.int .u32 (Reply.handle a0),a0_3]),(1,.int .i64 a1)]) (c:=B5) Tryz.func5 rfl rfl rfl (by simp) ?_
 show TT _ _ _ _ _ _ [.code (sub [] B5)] _ _
 refine TT.sq rfl ?_
 refine TT.rg [0,1] [kA,kp] rfl rfl ?_
 refine DL.new (ob:=.cells (#[.int .u64 (Reply.num a0),.int .i64 (Reply.code a0),.int .u32 (Reply.handle a0),a0_3]) 62) (mk:=fun b => ptr b 0) (i:=0) rfl (Wn.none rfl) rfl rfl rfl (f_box (v:=.agg #[.int .u64 (Reply.num a0),.int .i64 (Reply.code a0),.int .u32 (Reply.handle a0),a0_3]) rfl rfl) ?_
 intro b1 hb1
 refine DL.pu 4 (.bool false) rfl (p_assign rfl rfl) ?_
 refine DL.nil ?_
 refine TT.sq rfl ?_
 refine TT.sq rfl ?_
 refine TT.rg [0,1] [kq,kq] rfl rfl ?_
 refine DL.qu 5 (.agg #[.int .u64 (Reply.num a0),.int .i64 (Reply.code a0),.int .u32 (Reply.handle a0),a0_3]) rfl (f_loadA (j:=0) ty_a62 ty_s62 rfl rfl rfl rfl) ?_
 obtain ⟨t2,h3,h4⟩:=bind_some h
 refine DL.qu 6 (.bool t2) rfl (f_callR rfl rfl (args_val (vs:=[.agg #[.int .u64 (Reply.num a0),.int .i64 (Reply.code a0),.int .u32 (Reply.handle a0),a0_3]]) rfl) (fun w => enter24 _ w) (fun w hc => ref20_Big.val h3 (M:=M) w (hE.ext hc) hr_a0_3)) ?_
 refine DL.nil ?_
 by_cases c5 : t2 = true
 ·
  have h6:=ite_true c5 h4
  refine TT.ct rfl rfl c5 ?_
  refine TT.sq rfl ?_
  refine TT.rg [0,1] [kq,kp] rfl rfl ?_
  obtain ⟨t7,h8,h9⟩:=bind_some h6
  refine DL.qu 7 (.bool t7) rfl (f_callR rfl rfl (args_val (vs:=[]) rfl) (fun w => enter7 _ w) (fun w hc => law31_known.val h8 (M:=M) w (hE.ext hc) hG)) ?_
  refine DL.pu 4 (.bool t7) rfl (p_assign rfl rfl) ?_
  refine DL.nil ?_
  obtain rfl:=Option.some.inj h9
  exact retnE (rs:=[.tmp 4]) (vs:=[.bool t7]) hE.base Tryz.func5 rfl rfl rfl (res_cons (ResV.tmp rfl) res_nil) rfl
 ·
  replace c5:=Bool.eq_false_iff.mpr c5
  have h10:=ite_false c5 h4
  refine TT.cf rfl rfl c5 ?_
  refine TT.skip ?_
  refine TT.sq rfl ?_
  refine TT.rgD [0,1,2,3,4,5,6,7,8,9,10,11,12,13,14,15] [0,1,0,7,15,31,63,127,255,511,1023,2047,4095,8191,16383,32767] [(.look,some 0),kq,(.look,some 0),kq,kp,kp,kq,kp,kp,kp,kq,kp,kp,kq,kp,kp] rfl mixed (by kernel_rfl) ?_
  intro w11 hl11 hj11 hz11
  refine DL.look (v:=.agg #[.int .u64 (Reply.num a0),.int .i64 (Reply.code a0),.int .u32 (Reply.handle a0),a0_3]) (x:=0) (b:=b1) (i:=0) rfl (Wn.none rfl) rfl rfl rfl rfl rfl (List.mem_of_getElem? (i:=0) rfl) (b_loadA ty_a62 ty_s62 rfl rfl rfl) ?_
  obtain ⟨t12,h13,h14⟩:=bind_some h10
  refine DL.qu 9 (str t12) rfl (f_callR rfl rfl (args_val (vs:=[.agg #[.int .u64 (Reply.num a0),.int .i64 (Reply.code a0),.int .u32 (Reply.handle a0),a0_3]]) rfl) (fun w => enter25 _ w) (fun w hc => script_ReplyText.val h13 (M:=M) w (hE.ext hc) hG.g hr_a0_3)) ?_
  refine DL.look (v:=.agg #[.int .u64 (Reply.num a0),.int .i64 (Reply.code a0),.int .u32 (Reply.handle a0),a0_3]) (x:=0) (b:=b1) (i:=2) rfl (Wn.none rfl) rfl rfl rfl rfl rfl (List.mem_of_getElem? (i:=0) rfl) (b_loadA ty_a62 ty_s62 rfl rfl rfl) ?_
  obtain ⟨t15,h16,h17⟩:=bind_some h14
  refine DL.qu 11 (str t15) rfl (f_callR rfl rfl (args_val (vs:=[.agg #[.int .u64 (Reply.num a0),.int .i64 (Reply.code a0),.int .u32 (Reply.handle a0),a0_3]]) rfl) (fun w => enter26 _ w) (fun w hc => ref31_ReplyText.val h16 (M:=M) w (hE.ext hc) hG.g hr_a0_3)) ?_
  refine DL.pu 12 (.bool (t12 == t15)) rfl (p_strEq rfl rfl rfl) ?_
  refine DL.mv 13 (.bool (t12 == t15)) rfl rfl rfl ?_
  obtain ⟨q19,h20,h21⟩:=bind_some h17
  refine DL.cut [(1,.int .i64 a1),(15,.bool q19)] [8,9,10,11,12,13,14,15] ?_ (fun J22 => ?_)
  ·
   refine DL.mv 16 (.bool q19) rfl rfl rfl ?_
   obtain ⟨q27,h28,h29⟩:=bind_some h21
   refine DL.cut [(19,.bool q27)] [12,13,14,15] ?_ (fun J30 => ?_)
   ·
    refine DL.mv 20 (.bool q27) rfl rfl rfl ?_
    obtain ⟨q35,h36,h37⟩:=bind_some h29
    refine DL.cut [(22,.bool q35)] [15] ?_ (fun J38 => ?_)
    ·
     refine DL.pu 4 (.bool q35) rfl (p_assign rfl rfl) ?_
     refine DL.nil' hl11 ?_
     obtain rfl:=Option.some.inj h37
     exact retnE (rs:=[.tmp 4]) (vs:=[.bool q35]) hE.base Tryz.func5 rfl rfl rfl (res_cons (ResV.tmp rfl) res_nil) rfl
    ·
     by_cases c39 : q27 = true
     ·
      have h40:=ite_true c39 h36
      obtain ⟨t41,h42,h43⟩:=bind_some h40
      refine DL.quiet (v:=.bool t41) rfl (Wn.yes c39 rfl rfl rfl rfl) rfl rfl rfl (f_callR rfl rfl (args_val (vs:=[]) rfl) (fun w => enter7 _ w) (fun w hc => law31_known.val h42 (M:=M) w (hE.ext hc) hG)) ?_
      refine DL.pu 22 (.bool t41) rfl (p_pick_t c39 rfl rfl rfl) ?_
      obtain rfl:=Option.some.inj h43
      exact DL.weak J38 (Sub.cons rfl (Sub.nil _))
     ·
      replace c39:=Bool.eq_false_iff.mpr c39
      have h44:=ite_false c39 h36
      refine DL.not rfl (Wn.no c39 rfl rfl rfl rfl) rfl rfl ?_
      refine DL.pu 22 (.bool false) rfl (p_pick_f c39 rfl rfl rfl) ?_
      obtain rfl:=Option.some.inj h44
      exact DL.weak J38 (Sub.cons rfl (Sub.nil _))
   ·
    by_cases c31 : q19 = true
    ·
     have h32:=ite_true c31 h28
     refine DL.pure (v:=.int .i64 a1) rfl (Wn.yes c31 rfl rfl rfl rfl) rfl rfl rfl (p_move rfl rfl) ?_
     refine DL.quiet (v:=.bool true) rfl (Wn.yes c31 rfl rfl rfl rfl) rfl rfl rfl (f_callR rfl rfl (args_val (vs:=[.int .i64 a1]) rfl) (fun w => enter27 _ w) (fun w hc => once27 w)) ?_
     refine DL.pu 19 (.bool true) rfl (p_pick_t c31 rfl rfl rfl) ?_
     obtain rfl:=Option.some.inj h32
     exact DL.weak J30 (Sub.cons rfl (Sub.nil _))
    ·
     replace c31:=Bool.eq_false_iff.mpr c31
     have h33:=ite_false c31 h28
     refine DL.not rfl (Wn.no c31 rfl rfl rfl rfl) rfl rfl ?_
     refine DL.not rfl (Wn.no c31 rfl rfl rfl rfl) rfl rfl ?_
     refine DL.pu 19 (.bool false) rfl (p_pick_f c31 rfl rfl rfl) ?_
     obtain rfl:=Option.some.inj h33
     exact DL.weak J30 (Sub.cons rfl (Sub.nil _))
  ·
   by_cases c23 : (t12 == t15) = true
   ·
    have h24:=ite_true c23 h20
    refine DL.quiet (v:=.bool true) rfl (Wn.yes c23 rfl rfl rfl rfl) rfl rfl rfl (f_callR rfl rfl (args_val (vs:=[.int .i64 0]) rfl) (fun w => enter27 _ w) (fun w hc => once27 w)) ?_
    refine DL.pu 15 (.bool true) rfl (p_pick_t c23 rfl rfl rfl) ?_
    obtain rfl:=Option.some.inj h24
    exact DL.weak J22 (Sub.cons rfl (Sub.cons rfl (Sub.nil _)))
   ·
    replace c23:=Bool.eq_false_iff.mpr c23
    have h25:=ite_false c23 h20
    refine DL.not rfl (Wn.no c23 rfl rfl rfl rfl) rfl rfl ?_
    refine DL.pu 15 (.bool false) rfl (p_pick_f c23 rfl rfl rfl) ?_
    obtain rfl:=Option.some.inj h25
    exact DL.weak J22 (Sub.cons rfl (Sub.cons rfl (Sub.nil _)))
/-! ### escutcheon/escutcheonlaw31.ScriptActs: function 4 -/
end Go.Proofs.YthldgjbmjgjogaaGreatDoor
