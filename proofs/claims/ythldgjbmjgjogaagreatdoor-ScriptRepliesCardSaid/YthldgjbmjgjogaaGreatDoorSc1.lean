import Derived.Test.YthldgjbmjgjogaaGreatDoorSnCl2
namespace Go.Proofs.YthldgjbmjgjogaaGreatDoor
open Go Go.HW Go.RowKit
set_option linter.unusedVariables false
set_option linter.unusedSimpArgs false

theorem ty_z33 (w : World) : (zeroValue 33).run Tryz.prog w = .ok (.agg (Cmd.ce zC nS)) w:=by kernel_rfl
theorem ty_u162 (w : World) : (underlying 162).run Tryz.prog w = .ok (.map 21 1) w:=by kernel_rfl
theorem ty_u21 (w : World) : (underlying 21).run Tryz.prog w = .ok (.int .i32) w:=by kernel_rfl
theorem enter48 (args : Array Value) (w : World) : (callFunc 48 args).run Tryz.prog w = .ok (.enter 48 args) w:=by kernel_rfl
theorem ty_z1 (w : World) : (zeroValue 1).run Tryz.prog w = .ok (.nilFunc) w:=by kernel_rfl
theorem enter137 (args : Array Value) (w : World) : (callFunc 137 args).run Tryz.prog w = .ok (.enter 137 args) w:=by kernel_rfl
theorem enter138 (args : Array Value) (w : World) : (callFunc 138 args).run Tryz.prog w = .ok (.enter 138 args) w:=by kernel_rfl
theorem enter139 (args : Array Value) (w : World) : (callFunc 139 args).run Tryz.prog w = .ok (.enter 139 args) w:=by kernel_rfl
theorem enter135 (args : Array Value) (w : World) : (callFunc 135 args).run Tryz.prog w = .ok (.enter 135 args) w:=by kernel_rfl
theorem enter140 (args : Array Value) (w : World) : (callFunc 140 args).run Tryz.prog w = .ok (.enter 140 args) w:=by kernel_rfl
theorem enter136 (args : Array Value) (w : World) : (callFunc 136 args).run Tryz.prog w = .ok (.enter 136 args) w:=by kernel_rfl
theorem enter115 (args : Array Value) (w : World) : (callFunc 115 args).run Tryz.prog w = .ok (.enter 115 args) w:=by kernel_rfl
theorem enter98 (args : Array Value) (w : World) : (callFunc 98 args).run Tryz.prog w = .ok (.enter 98 args) w:=by kernel_rfl
theorem enter92 (args : Array Value) (w : World) : (callFunc 92 args).run Tryz.prog w = .ok (.enter 92 args) w:=by kernel_rfl
theorem enter47 (args : Array Value) (w : World) : (callFunc 47 args).run Tryz.prog w = .ok (.enter 47 args) w:=by kernel_rfl
theorem ty_z46 (w : World) : (zeroValue 46).run Tryz.prog w = .ok (nS) w:=by kernel_rfl
theorem ty_s46 (w : World) : (sizeOf 46).run Tryz.prog w = .ok 1 w:=by kernel_rfl
theorem enter50 (args : Array Value) (w : World) : (callFunc 50 args).run Tryz.prog w = .ok (.enter 50 args) w:=by kernel_rfl
theorem enter93 (args : Array Value) (w : World) : (callFunc 93 args).run Tryz.prog w = .ok (.enter 93 args) w:=by kernel_rfl
theorem enter90 (args : Array Value) (w : World) : (callFunc 90 args).run Tryz.prog w = .ok (.enter 90 args) w:=by kernel_rfl
theorem ty_a46 (w : World) : (isAgg 46).run Tryz.prog w = .ok false w:=by kernel_rfl

/-! ### escutcheon/frame.bare: function 115 -/
noncomputable def B115 : Code:=bodyOf Tryz.f115
def frame_bare.f (a0 : Cmd) : Option (Cmd):=(frame_Names.f a0.kind).bind fun t6 => if (t6 == [116,97]) = true then (some (Cmd.mk a0.num a0.kind 0 0 a0.typ a0.attr z0 z0)) else (if (t6 == [116,97,107]) = true then (some (Cmd.mk a0.num a0.kind 0 0 a0.typ a0.attr a0.key z0)) else (if (t6 == [104]) = true then (some (Cmd.mk a0.num a0.kind a0.handle 0 0 0 z0 z0)) else (if (t6 == [104,100]) = true then (some (Cmd.mk a0.num a0.kind a0.handle 0 0 0 z0 a0.data)) else (if (t6 == [104,111]) = true then (some (Cmd.mk a0.num a0.kind a0.handle a0.other 0 0 z0 z0)) else (if (t6 == [104,97,100]) = true then (some (Cmd.mk a0.num a0.kind a0.handle 0 0 a0.attr z0 a0.data)) else (if (t6 == [104,116,97,100]) = true then (some (Cmd.mk a0.num a0.kind a0.handle 0 a0.typ a0.attr z0 a0.data)) else (if (t6 == [104,97]) = true then (some (Cmd.mk a0.num a0.kind a0.handle 0 0 a0.attr z0 z0)) else (if (t6 == zU) = true then (some (Cmd.mk a0.num a0.kind 0 0 0 0 z0 z0)) else (none)))))))))
set_option maxHeartbeats 1000000 in
set_option maxRecDepth 20000 in
theorem frame_bare.ok {a0 : Cmd} {a0_38 : Value} {r : Cmd} (h : frame_bare.f a0 = some r) {M : Mem} (w : World) (hM : Ext M (heapOf w)) (hr_a0_38 : IntRow M .u8 a0_38 a0.data) : Calls Tryz.prog 115 #[.agg (Cmd.ce a0 a0_38)] w (PostF (G:=Value) (fun g => .agg (Cmd.ce r g)) (fun g M_ => (IntRow M_ .u8 g r.data)) M w):=by
 unfold frame_bare.f at h
 have hE:=Env.start hM
 refine calls_of_TT (N:=32) (S:=[(0,.agg (Cmd.ce a0 a0_38))]) (c:=B115) Tryz.func115 rfl rfl rfl (by simp) ?_
 show TT _ _ _ _ _ _ [.code (sub [] B115)] _ _
 refine TT.sq rfl ?_
 refine TT.rg [0,1] [kA,kA] rfl rfl ?_
 refine DL.new (ob:=.cells ((Cmd.ce a0 a0_38)) 33) (mk:=fun b => ptr b 0) (i:=0) rfl (Wn.none rfl) rfl rfl rfl (f_box (v:=.agg (Cmd.ce a0 a0_38)) rfl rfl) ?_
 intro b1 hb1
 refine DL.new (ob:=.cells ((Cmd.ce zC nS)) 33) (mk:=fun b => ptr b 0) (i:=1) rfl (Wn.none rfl) rfl rfl rfl (f_alloc ty_z33 rfl) ?_
 intro b2 hb2
 refine DL.nil ?_
 refine TT.freezeAt (j:=1) hE rfl ?_
 intro M3 I3 hE3 hx3 hxI3 hb3
 have hm_3 : M3 b1 = some (.cells ((Cmd.ce a0 a0_38)) 33 (0,0)):=hb3 _ rfl
 show TT _ _ _ _ _ _ _ _ [(some b2,.cells ((Cmd.ce zC nS)) 33 (0,0))]
 refine TT.sq rfl ?_
 refine TT.rg [0,1,2,3,4,5,6] [kp,kq,kp,kq,kp,kA,kS] rfl rfl ?_
 refine DL.pu 7 (ptr b1 0) rfl (p_fieldAddr ty_f33_0 rfl rfl) ?_
 refine DL.qu 8 (.int .u64 a0.num) rfl (FImm.quiet (i_loadBoxO (I:=M3) hm_3 rfl ty_a24 rfl rfl) (fun w hc => hE3.imm hc)) ?_
 refine DL.pu 9 (ptr b1 1) rfl (p_fieldAddr ty_f33_1 rfl rfl) ?_
 refine DL.qu 10 (.int .i64 a0.kind) rfl (FImm.quiet (i_loadBoxO (I:=M3) hm_3 rfl ty_a27 rfl rfl) (fun w hc => hE3.imm hc)) ?_
 refine DL.pu 11 (.agg (Cmd.ce (Cmd.mk a0.num a0.kind 0 0 0 0 z0 z0) nS)) rfl (p_build (vs:=[(0,.int .u64 a0.num),(1,.int .i64 a0.kind)]) (fun w => by kernel_rfl) rfl rfl) ?_
 refine DL.new (ob:=.cells ((Cmd.ce zC nS)) 33) (mk:=fun b => ptr b 0) (i:=5) rfl (Wn.none rfl) rfl rfl rfl (f_alloc ty_z33 rfl) ?_
 intro b4 hb4
 refine DL.put (H':=[(some b4,.cells ((Cmd.ce (Cmd.mk a0.num a0.kind 0 0 0 0 z0 z0) nS)) 33 (0,0)),(some b2,.cells ((Cmd.ce zC nS)) 33 (0,0))]) (i:=6) rfl (Wn.none rfl) rfl rfl (f_storeA (j:=0) ty_s33 rfl rfl rfl (cmd_one (sl_one (RowV.sl (IntRow.nil .u8 M3)))) rfl rfl rfl) (keep_none rfl) ?_
 refine DL.nil ?_
 refine TT.sq rfl ?_
 refine TT.rg [0,1,2,3,4,5,6,7,8,9,10,11,12,13,14] [kA,kp,kS,kp,kS,kp,kS,kp,kS,kp,kS,kp,kS,kp,kp] rfl rfl ?_
 refine DL.new (ob:=mobj .i32 []) (mk:=fun b => .map (some b)) (i:=0) rfl (Wn.none rfl) rfl rfl rfl (f_makeMap rfl) ?_
 intro b5 hb5
 refine DL.pu 13 (.func (.func 135) #[] #[ptr b1 0,ptr b4 0]) rfl (p_makeFunc rfl (args_val (vs:=[ptr b1 0,ptr b4 0]) rfl)) ?_
 refine DL.put (H':=[(some b5,mobj .i32 [(104,.func (.func 135) #[] #[ptr b1 0,ptr b4 0])]),(some b4,.cells ((Cmd.ce (Cmd.mk a0.num a0.kind 0 0 0 0 z0 z0) nS)) 33 (0,0)),(some b2,.cells ((Cmd.ce zC nS)) 33 (0,0))]) (i:=2) rfl (Wn.none rfl) rfl rfl (f_insert (l:=[]) (a:=104) (v:=.func (.func 135) #[] #[ptr b1 0,ptr b4 0]) (j:=0) ty_u162 ty_u21 rfl rfl rfl rfl rfl rfl) (keep_none rfl) ?_
 refine DL.pu 14 (.func (.func 136) #[] #[ptr b1 0,ptr b4 0]) rfl (p_makeFunc rfl (args_val (vs:=[ptr b1 0,ptr b4 0]) rfl)) ?_
 refine DL.put (H':=[(some b5,mobj .i32 [(104,.func (.func 135) #[] #[ptr b1 0,ptr b4 0]),(111,.func (.func 136) #[] #[ptr b1 0,ptr b4 0])]),(some b4,.cells ((Cmd.ce (Cmd.mk a0.num a0.kind 0 0 0 0 z0 z0) nS)) 33 (0,0)),(some b2,.cells ((Cmd.ce zC nS)) 33 (0,0))]) (i:=4) rfl (Wn.none rfl) rfl rfl (f_insert (l:=[(104,.func (.func 135) #[] #[ptr b1 0,ptr b4 0])]) (a:=111) (v:=.func (.func 136) #[] #[ptr b1 0,ptr b4 0]) (j:=0) ty_u162 ty_u21 rfl rfl rfl rfl rfl rfl) (keep_none rfl) ?_
 refine DL.pu 15 (.func (.func 137) #[] #[ptr b1 0,ptr b4 0]) rfl (p_makeFunc rfl (args_val (vs:=[ptr b1 0,ptr b4 0]) rfl)) ?_
 refine DL.put (H':=[(some b5,mobj .i32 [(104,.func (.func 135) #[] #[ptr b1 0,ptr b4 0]),(111,.func (.func 136) #[] #[ptr b1 0,ptr b4 0]),(116,.func (.func 137) #[] #[ptr b1 0,ptr b4 0])]),(some b4,.cells ((Cmd.ce (Cmd.mk a0.num a0.kind 0 0 0 0 z0 z0) nS)) 33 (0,0)),(some b2,.cells ((Cmd.ce zC nS)) 33 (0,0))]) (i:=6) rfl (Wn.none rfl) rfl rfl (f_insert (l:=[(104,.func (.func 135) #[] #[ptr b1 0,ptr b4 0]),(111,.func (.func 136) #[] #[ptr b1 0,ptr b4 0])]) (a:=116) (v:=.func (.func 137) #[] #[ptr b1 0,ptr b4 0]) (j:=0) ty_u162 ty_u21 rfl rfl rfl rfl rfl rfl) (keep_none rfl) ?_
 refine DL.pu 16 (.func (.func 138) #[] #[ptr b1 0,ptr b4 0]) rfl (p_makeFunc rfl (args_val (vs:=[ptr b1 0,ptr b4 0]) rfl)) ?_
 refine DL.put (H':=[(some b5,mobj .i32 [(104,.func (.func 135) #[] #[ptr b1 0,ptr b4 0]),(111,.func (.func 136) #[] #[ptr b1 0,ptr b4 0]),(116,.func (.func 137) #[] #[ptr b1 0,ptr b4 0]),(97,.func (.func 138) #[] #[ptr b1 0,ptr b4 0])]),(some b4,.cells ((Cmd.ce (Cmd.mk a0.num a0.kind 0 0 0 0 z0 z0) nS)) 33 (0,0)),(some b2,.cells ((Cmd.ce zC nS)) 33 (0,0))]) (i:=8) rfl (Wn.none rfl) rfl rfl (f_insert (l:=[(104,.func (.func 135) #[] #[ptr b1 0,ptr b4 0]),(111,.func (.func 136) #[] #[ptr b1 0,ptr b4 0]),(116,.func (.func 137) #[] #[ptr b1 0,ptr b4 0])]) (a:=97) (v:=.func (.func 138) #[] #[ptr b1 0,ptr b4 0]) (j:=0) ty_u162 ty_u21 rfl rfl rfl rfl rfl rfl) (keep_none rfl) ?_
 refine DL.pu 17 (.func (.func 139) #[] #[ptr b1 0,ptr b4 0]) rfl (p_makeFunc rfl (args_val (vs:=[ptr b1 0,ptr b4 0]) rfl)) ?_
 refine DL.put (H':=[(some b5,mobj .i32 [(104,.func (.func 135) #[] #[ptr b1 0,ptr b4 0]),(111,.func (.func 136) #[] #[ptr b1 0,ptr b4 0]),(116,.func (.func 137) #[] #[ptr b1 0,ptr b4 0]),(97,.func (.func 138) #[] #[ptr b1 0,ptr b4 0]),(107,.func (.func 139) #[] #[ptr b1 0,ptr b4 0])]),(some b4,.cells ((Cmd.ce (Cmd.mk a0.num a0.kind 0 0 0 0 z0 z0) nS)) 33 (0,0)),(some b2,.cells ((Cmd.ce zC nS)) 33 (0,0))]) (i:=10) rfl (Wn.none rfl) rfl rfl (f_insert (l:=[(104,.func (.func 135) #[] #[ptr b1 0,ptr b4 0]),(111,.func (.func 136) #[] #[ptr b1 0,ptr b4 0]),(116,.func (.func 137) #[] #[ptr b1 0,ptr b4 0]),(97,.func (.func 138) #[] #[ptr b1 0,ptr b4 0])]) (a:=107) (v:=.func (.func 139) #[] #[ptr b1 0,ptr b4 0]) (j:=0) ty_u162 ty_u21 rfl rfl rfl rfl rfl rfl) (keep_none rfl) ?_
 refine DL.pu 18 (.func (.func 140) #[] #[ptr b1 0,ptr b4 0]) rfl (p_makeFunc rfl (args_val (vs:=[ptr b1 0,ptr b4 0]) rfl)) ?_
 refine DL.put (H':=[(some b5,mobj .i32 [(104,.func (.func 135) #[] #[ptr b1 0,ptr b4 0]),(111,.func (.func 136) #[] #[ptr b1 0,ptr b4 0]),(116,.func (.func 137) #[] #[ptr b1 0,ptr b4 0]),(97,.func (.func 138) #[] #[ptr b1 0,ptr b4 0]),(107,.func (.func 139) #[] #[ptr b1 0,ptr b4 0]),(100,.func (.func 140) #[] #[ptr b1 0,ptr b4 0])]),(some b4,.cells ((Cmd.ce (Cmd.mk a0.num a0.kind 0 0 0 0 z0 z0) nS)) 33 (0,0)),(some b2,.cells ((Cmd.ce zC nS)) 33 (0,0))]) (i:=12) rfl (Wn.none rfl) rfl rfl (f_insert (l:=[(104,.func (.func 135) #[] #[ptr b1 0,ptr b4 0]),(111,.func (.func 136) #[] #[ptr b1 0,ptr b4 0]),(116,.func (.func 137) #[] #[ptr b1 0,ptr b4 0]),(97,.func (.func 138) #[] #[ptr b1 0,ptr b4 0]),(107,.func (.func 139) #[] #[ptr b1 0,ptr b4 0])]) (a:=100) (v:=.func (.func 140) #[] #[ptr b1 0,ptr b4 0]) (j:=0) ty_u162 ty_u21 rfl rfl rfl rfl rfl rfl) (keep_none rfl) ?_
 refine DL.mv 19 (.map (some b5)) rfl rfl rfl ?_
 refine DL.pu 4 (.map (some b5)) rfl (p_assign rfl rfl) ?_
 refine DL.nil ?_
 refine TT.sq rfl ?_
 refine TT.sq rfl ?_
 refine TT.rg [0,1,2,3] [kp,kq,kq,kk] rfl rfl ?_
 refine DL.pu 20 (ptr b1 1) rfl (p_fieldAddr ty_f33_1 rfl rfl) ?_
 refine DL.qu 21 (.int .i64 a0.kind) rfl (FImm.quiet (i_loadBoxO (I:=M3) hm_3 rfl ty_a27 rfl rfl) (fun w hc => hE3.imm hc)) ?_
 obtain ⟨t6,h7,h8⟩:=bind_some h
 refine DL.qu 22 (str t6) rfl (f_callR rfl rfl (args_val (vs:=[.int .i64 a0.kind]) rfl) (fun w => enter48 _ w) (fun w hc => frame_Names.val h7 (M:=M3) w (hE3.ext hc) )) ?_
 by_cases hs9_0 : t6 = [116,97]
 ·
  subst hs9_0
  replace h8:=(if_pos (by decide)).symm.trans h8
  refine DL.keep (X:=Nat) (u:=fun b => ptr b 0) (H':=fun b => (some b,.stringIter ⟨#[116,97]⟩ 0) :: [(some b5,mobj .i32 [(104,.func (.func 135) #[] #[ptr b1 0,ptr b4 0]),(111,.func (.func 136) #[] #[ptr b1 0,ptr b4 0]),(116,.func (.func 137) #[] #[ptr b1 0,ptr b4 0]),(97,.func (.func 138) #[] #[ptr b1 0,ptr b4 0]),(107,.func (.func 139) #[] #[ptr b1 0,ptr b4 0]),(100,.func (.func 140) #[] #[ptr b1 0,ptr b4 0])]),(some b4,.cells ((Cmd.ce (Cmd.mk a0.num a0.kind 0 0 0 0 z0 z0) nS)) 33 (0,0)),(some b2,.cells ((Cmd.ce zC nS)) 33 (0,0))]) (fun _ p hp => List.mem_cons_of_mem _ hp) (i:=3) rfl (Wn.none rfl) rfl rfl rfl (f_rangeText (s:=⟨#[116,97]⟩) (by kernel_rfl : Tryz.prog.underlying 9 = some .string) rfl rfl) ?_
  intro b10
  refine DL.nil ?_
  refine TT.bk rfl ?_
  refine TT.lp rfl ?_
  refine TT.sq rfl ?_
  refine TT.rg [0,1] [kx,kp] rfl rfl ?_
  refine DL.chr (j:=0) (c:=116) (wd:=1) rfl rfl rfl rfl rfl rfl (by decide) (by kernel_rfl) rfl rfl ?_
  refine DL.pu 25 (.bool true) rfl (p_extract rfl rfl rfl) ?_
  refine DL.nil ?_
  refine TT.sq rfl ?_
  refine TT.ct rfl rfl rfl ?_
  refine TT.skip ?_
  refine TT.bk rfl ?_
  refine TT.sq rfl ?_
  refine TT.rg [0,1] [kp,kp] rfl rfl ?_
  refine DL.pu 26 (.int .i32 116) rfl (p_extract rfl rfl rfl) ?_
  refine DL.pu 6 (.int .i32 116) rfl (p_assign rfl rfl) ?_
  refine DL.nil ?_
  refine TT.rg [0,1,2,3] [kp,kp,kq,kx] rfl rfl ?_
  refine DL.mv 27 (.map (some b5)) rfl rfl rfl ?_
  refine DL.mv 28 (.int .i32 116) rfl rfl rfl ?_
  refine DL.qu 29 (.func (.func 137) #[] #[ptr b1 0,ptr b4 0]) rfl (f_lookupV (v:=.func (.func 137) #[] #[ptr b1 0,ptr b4 0]) rfl (f_lookup (a:=116) (j:=1) ty_u162 ty_u21 ty_z1 rfl rfl rfl rfl)) ?_
  refine DL.turnM (M:=M3) (E:=[(some b4,.cells ((Cmd.ce (Cmd.mk a0.num a0.kind 0 0 0 0 z0 z0) nS)) 33 (0,0))]) (R:=[(some b10,.stringIter ⟨#[116,97]⟩ 1),(some b5,mobj .i32 [(104,.func (.func 135) #[] #[ptr b1 0,ptr b4 0]),(111,.func (.func 136) #[] #[ptr b1 0,ptr b4 0]),(116,.func (.func 137) #[] #[ptr b1 0,ptr b4 0]),(97,.func (.func 138) #[] #[ptr b1 0,ptr b4 0]),(107,.func (.func 139) #[] #[ptr b1 0,ptr b4 0]),(100,.func (.func 140) #[] #[ptr b1 0,ptr b4 0])]),(some b2,.cells ((Cmd.ce zC nS)) 33 (0,0))]) (fun b o e => hE3.mi b o e) [2,0,1,3] rfl rfl (fb137 hm_3) (args:=#[]) (caps:=#[ptr b1 0,ptr b4 0]) rfl (i:=3) rfl (Wn.none rfl) rfl rfl rfl rfl rfl rfl (args_val (vs:=[]) rfl) (fun w => enter137 _ w) ?_
  intro _
  refine DL.nil ?_
  refine TT.inBlock ?_
  refine TT.inLoop ?_
  refine TT.sq rfl ?_
  refine TT.rg [0,1] [kx,kp] rfl rfl ?_
  refine DL.chr (j:=1) (c:=97) (wd:=1) rfl rfl rfl rfl rfl rfl (by decide) (by kernel_rfl) rfl rfl ?_
  refine DL.pu 25 (.bool true) rfl (p_extract rfl rfl rfl) ?_
  refine DL.nil ?_
  refine TT.sq rfl ?_
  refine TT.ct rfl rfl rfl ?_
  refine TT.skip ?_
  refine TT.bk rfl ?_
  refine TT.sq rfl ?_
  refine TT.rg [0,1] [kp,kp] rfl rfl ?_
  refine DL.pu 26 (.int .i32 97) rfl (p_extract rfl rfl rfl) ?_
  refine DL.pu 6 (.int .i32 97) rfl (p_assign rfl rfl) ?_
  refine DL.nil ?_
  refine TT.rg [0,1,2,3] [kp,kp,kq,kx] rfl rfl ?_
  refine DL.mv 27 (.map (some b5)) rfl rfl rfl ?_
  refine DL.mv 28 (.int .i32 97) rfl rfl rfl ?_
  refine DL.qu 29 (.func (.func 138) #[] #[ptr b1 0,ptr b4 0]) rfl (f_lookupV (v:=.func (.func 138) #[] #[ptr b1 0,ptr b4 0]) rfl (f_lookup (a:=97) (j:=2) ty_u162 ty_u21 ty_z1 rfl rfl rfl rfl)) ?_
  refine DL.turnM (M:=M3) (E:=[(some b4,.cells ((Cmd.ce (Cmd.mk a0.num a0.kind 0 0 a0.typ 0 z0 z0) nS)) 33 (0,0))]) (R:=[(some b10,.stringIter ⟨#[116,97]⟩ 2),(some b5,mobj .i32 [(104,.func (.func 135) #[] #[ptr b1 0,ptr b4 0]),(111,.func (.func 136) #[] #[ptr b1 0,ptr b4 0]),(116,.func (.func 137) #[] #[ptr b1 0,ptr b4 0]),(97,.func (.func 138) #[] #[ptr b1 0,ptr b4 0]),(107,.func (.func 139) #[] #[ptr b1 0,ptr b4 0]),(100,.func (.func 140) #[] #[ptr b1 0,ptr b4 0])]),(some b2,.cells ((Cmd.ce zC nS)) 33 (0,0))]) (fun b o e => hE3.mi b o e) [0,1,2,3] rfl rfl (fb138 hm_3) (args:=#[]) (caps:=#[ptr b1 0,ptr b4 0]) rfl (i:=3) rfl (Wn.none rfl) rfl rfl rfl rfl rfl rfl (args_val (vs:=[]) rfl) (fun w => enter138 _ w) ?_
  intro _
  refine DL.nil ?_
  refine TT.inBlock ?_
  refine TT.inLoop ?_
  refine TT.sq rfl ?_
  refine TT.rg [0,1] [kx,kp] rfl rfl ?_
  refine DL.chrE (j:=1) rfl rfl rfl rfl rfl rfl (by decide) rfl rfl ?_
  refine DL.pu 25 (.bool false) rfl (p_extract rfl rfl rfl) ?_
  refine DL.nil ?_
  refine TT.sq rfl ?_
  refine TT.cf rfl rfl rfl ?_
  refine TT.exit rfl ?_
  refine TT.sq rfl ?_
  refine TT.rg [0,1] [kq,kS] rfl rfl ?_
  refine DL.qu 31 (.agg (Cmd.ce (Cmd.mk a0.num a0.kind 0 0 a0.typ a0.attr z0 z0) nS)) rfl (f_loadA (j:=0) ty_a33 ty_s33 rfl rfl rfl rfl) ?_
  refine DL.put (H':=[(some b4,.cells ((Cmd.ce (Cmd.mk a0.num a0.kind 0 0 a0.typ a0.attr z0 z0) nS)) 33 (0,0)),(some b10,.stringIter ⟨#[116,97]⟩ 2),(some b5,mobj .i32 [(104,.func (.func 135) #[] #[ptr b1 0,ptr b4 0]),(111,.func (.func 136) #[] #[ptr b1 0,ptr b4 0]),(116,.func (.func 137) #[] #[ptr b1 0,ptr b4 0]),(97,.func (.func 138) #[] #[ptr b1 0,ptr b4 0]),(107,.func (.func 139) #[] #[ptr b1 0,ptr b4 0]),(100,.func (.func 140) #[] #[ptr b1 0,ptr b4 0])]),(some b2,.cells ((Cmd.ce (Cmd.mk a0.num a0.kind 0 0 a0.typ a0.attr z0 z0) nS)) 33 (0,0))]) (i:=1) rfl (Wn.none rfl) rfl rfl (f_storeA (j:=3) ty_s33 rfl rfl rfl (cmd_one (sl_one (RowV.sl (IntRow.nil .u8 M3)))) rfl rfl rfl) (keep_none rfl) ?_
  refine DL.nil ?_
  obtain rfl:=Option.some.inj h8
  exact retF (rs:=[.cell 2 33]) (vs:=[.agg (Cmd.ce (Cmd.mk a0.num a0.kind 0 0 a0.typ a0.attr z0 z0) nS)]) nS hE3 Tryz.func115 rfl rfl rfl (res_cons (ResV.cell (j:=3) ty_a33 ty_s33 rfl rfl rfl) res_nil) (IntRow.nil .u8 M3)
 replace h8:=(if_neg (by simpa using hs9_0)).symm.trans h8
 by_cases hs9_1 : t6 = [116,97,107]
 ·
  subst hs9_1
  replace h8:=(if_pos (by decide)).symm.trans h8
  refine DL.keep (X:=Nat) (u:=fun b => ptr b 0) (H':=fun b => (some b,.stringIter ⟨#[116,97,107]⟩ 0) :: [(some b5,mobj .i32 [(104,.func (.func 135) #[] #[ptr b1 0,ptr b4 0]),(111,.func (.func 136) #[] #[ptr b1 0,ptr b4 0]),(116,.func (.func 137) #[] #[ptr b1 0,ptr b4 0]),(97,.func (.func 138) #[] #[ptr b1 0,ptr b4 0]),(107,.func (.func 139) #[] #[ptr b1 0,ptr b4 0]),(100,.func (.func 140) #[] #[ptr b1 0,ptr b4 0])]),(some b4,.cells ((Cmd.ce (Cmd.mk a0.num a0.kind 0 0 0 0 z0 z0) nS)) 33 (0,0)),(some b2,.cells ((Cmd.ce zC nS)) 33 (0,0))]) (fun _ p hp => List.mem_cons_of_mem _ hp) (i:=3) rfl (Wn.none rfl) rfl rfl rfl (f_rangeText (s:=⟨#[116,97,107]⟩) (by kernel_rfl : Tryz.prog.underlying 9 = some .string) rfl rfl) ?_
  intro b11
  refine DL.nil ?_
  refine TT.bk rfl ?_
  refine TT.lp rfl ?_
  refine TT.sq rfl ?_
  refine TT.rg [0,1] [kx,kp] rfl rfl ?_
  refine DL.chr (j:=0) (c:=116) (wd:=1) rfl rfl rfl rfl rfl rfl (by decide) (by kernel_rfl) rfl rfl ?_
  refine DL.pu 25 (.bool true) rfl (p_extract rfl rfl rfl) ?_
  refine DL.nil ?_
  refine TT.sq rfl ?_
  refine TT.ct rfl rfl rfl ?_
  refine TT.skip ?_
  refine TT.bk rfl ?_
  refine TT.sq rfl ?_
  refine TT.rg [0,1] [kp,kp] rfl rfl ?_
  refine DL.pu 26 (.int .i32 116) rfl (p_extract rfl rfl rfl) ?_
  refine DL.pu 6 (.int .i32 116) rfl (p_assign rfl rfl) ?_
  refine DL.nil ?_
  refine TT.rg [0,1,2,3] [kp,kp,kq,kx] rfl rfl ?_
  refine DL.mv 27 (.map (some b5)) rfl rfl rfl ?_
  refine DL.mv 28 (.int .i32 116) rfl rfl rfl ?_
  refine DL.qu 29 (.func (.func 137) #[] #[ptr b1 0,ptr b4 0]) rfl (f_lookupV (v:=.func (.func 137) #[] #[ptr b1 0,ptr b4 0]) rfl (f_lookup (a:=116) (j:=1) ty_u162 ty_u21 ty_z1 rfl rfl rfl rfl)) ?_
  refine DL.turnM (M:=M3) (E:=[(some b4,.cells ((Cmd.ce (Cmd.mk a0.num a0.kind 0 0 0 0 z0 z0) nS)) 33 (0,0))]) (R:=[(some b11,.stringIter ⟨#[116,97,107]⟩ 1),(some b5,mobj .i32 [(104,.func (.func 135) #[] #[ptr b1 0,ptr b4 0]),(111,.func (.func 136) #[] #[ptr b1 0,ptr b4 0]),(116,.func (.func 137) #[] #[ptr b1 0,ptr b4 0]),(97,.func (.func 138) #[] #[ptr b1 0,ptr b4 0]),(107,.func (.func 139) #[] #[ptr b1 0,ptr b4 0]),(100,.func (.func 140) #[] #[ptr b1 0,ptr b4 0])]),(some b2,.cells ((Cmd.ce zC nS)) 33 (0,0))]) (fun b o e => hE3.mi b o e) [2,0,1,3] rfl rfl (fb137 hm_3) (args:=#[]) (caps:=#[ptr b1 0,ptr b4 0]) rfl (i:=3) rfl (Wn.none rfl) rfl rfl rfl rfl rfl rfl (args_val (vs:=[]) rfl) (fun w => enter137 _ w) ?_
  intro _
  refine DL.nil ?_
  refine TT.inBlock ?_
  refine TT.inLoop ?_
  refine TT.sq rfl ?_
  refine TT.rg [0,1] [kx,kp] rfl rfl ?_
  refine DL.chr (j:=1) (c:=97) (wd:=1) rfl rfl rfl rfl rfl rfl (by decide) (by kernel_rfl) rfl rfl ?_
  refine DL.pu 25 (.bool true) rfl (p_extract rfl rfl rfl) ?_
  refine DL.nil ?_
  refine TT.sq rfl ?_
  refine TT.ct rfl rfl rfl ?_
  refine TT.skip ?_
  refine TT.bk rfl ?_
  refine TT.sq rfl ?_
  refine TT.rg [0,1] [kp,kp] rfl rfl ?_
  refine DL.pu 26 (.int .i32 97) rfl (p_extract rfl rfl rfl) ?_
  refine DL.pu 6 (.int .i32 97) rfl (p_assign rfl rfl) ?_
  refine DL.nil ?_
  refine TT.rg [0,1,2,3] [kp,kp,kq,kx] rfl rfl ?_
  refine DL.mv 27 (.map (some b5)) rfl rfl rfl ?_
  refine DL.mv 28 (.int .i32 97) rfl rfl rfl ?_
  refine DL.qu 29 (.func (.func 138) #[] #[ptr b1 0,ptr b4 0]) rfl (f_lookupV (v:=.func (.func 138) #[] #[ptr b1 0,ptr b4 0]) rfl (f_lookup (a:=97) (j:=2) ty_u162 ty_u21 ty_z1 rfl rfl rfl rfl)) ?_
  refine DL.turnM (M:=M3) (E:=[(some b4,.cells ((Cmd.ce (Cmd.mk a0.num a0.kind 0 0 a0.typ 0 z0 z0) nS)) 33 (0,0))]) (R:=[(some b11,.stringIter ⟨#[116,97,107]⟩ 2),(some b5,mobj .i32 [(104,.func (.func 135) #[] #[ptr b1 0,ptr b4 0]),(111,.func (.func 136) #[] #[ptr b1 0,ptr b4 0]),(116,.func (.func 137) #[] #[ptr b1 0,ptr b4 0]),(97,.func (.func 138) #[] #[ptr b1 0,ptr b4 0]),(107,.func (.func 139) #[] #[ptr b1 0,ptr b4 0]),(100,.func (.func 140) #[] #[ptr b1 0,ptr b4 0])]),(some b2,.cells ((Cmd.ce zC nS)) 33 (0,0))]) (fun b o e => hE3.mi b o e) [0,1,2,3] rfl rfl (fb138 hm_3) (args:=#[]) (caps:=#[ptr b1 0,ptr b4 0]) rfl (i:=3) rfl (Wn.none rfl) rfl rfl rfl rfl rfl rfl (args_val (vs:=[]) rfl) (fun w => enter138 _ w) ?_
  intro _
  refine DL.nil ?_
  refine TT.inBlock ?_
  refine TT.inLoop ?_
  refine TT.sq rfl ?_
  refine TT.rg [0,1] [kx,kp] rfl rfl ?_
  refine DL.chr (j:=1) (c:=107) (wd:=1) rfl rfl rfl rfl rfl rfl (by decide) (by kernel_rfl) rfl rfl ?_
  refine DL.pu 25 (.bool true) rfl (p_extract rfl rfl rfl) ?_
  refine DL.nil ?_
  refine TT.sq rfl ?_
  refine TT.ct rfl rfl rfl ?_
  refine TT.skip ?_
  refine TT.bk rfl ?_
  refine TT.sq rfl ?_
  refine TT.rg [0,1] [kp,kp] rfl rfl ?_
  refine DL.pu 26 (.int .i32 107) rfl (p_extract rfl rfl rfl) ?_
  refine DL.pu 6 (.int .i32 107) rfl (p_assign rfl rfl) ?_
  refine DL.nil ?_
  refine TT.rg [0,1,2,3] [kp,kp,kq,kx] rfl rfl ?_
  refine DL.mv 27 (.map (some b5)) rfl rfl rfl ?_
  refine DL.mv 28 (.int .i32 107) rfl rfl rfl ?_
  refine DL.qu 29 (.func (.func 139) #[] #[ptr b1 0,ptr b4 0]) rfl (f_lookupV (v:=.func (.func 139) #[] #[ptr b1 0,ptr b4 0]) rfl (f_lookup (a:=107) (j:=2) ty_u162 ty_u21 ty_z1 rfl rfl rfl rfl)) ?_
  refine DL.turnM (M:=M3) (E:=[(some b4,.cells ((Cmd.ce (Cmd.mk a0.num a0.kind 0 0 a0.typ a0.attr z0 z0) nS)) 33 (0,0))]) (R:=[(some b11,.stringIter ⟨#[116,97,107]⟩ 3),(some b5,mobj .i32 [(104,.func (.func 135) #[] #[ptr b1 0,ptr b4 0]),(111,.func (.func 136) #[] #[ptr b1 0,ptr b4 0]),(116,.func (.func 137) #[] #[ptr b1 0,ptr b4 0]),(97,.func (.func 138) #[] #[ptr b1 0,ptr b4 0]),(107,.func (.func 139) #[] #[ptr b1 0,ptr b4 0]),(100,.func (.func 140) #[] #[ptr b1 0,ptr b4 0])]),(some b2,.cells ((Cmd.ce zC nS)) 33 (0,0))]) (fun b o e => hE3.mi b o e) [0,1,2,3] rfl rfl (fb139 hm_3) (args:=#[]) (caps:=#[ptr b1 0,ptr b4 0]) rfl (i:=3) rfl (Wn.none rfl) rfl rfl rfl rfl rfl rfl (args_val (vs:=[]) rfl) (fun w => enter139 _ w) ?_
  intro _
  refine DL.nil ?_
  refine TT.inBlock ?_
  refine TT.inLoop ?_
  refine TT.sq rfl ?_
  refine TT.rg [0,1] [kx,kp] rfl rfl ?_
  refine DL.chrE (j:=1) rfl rfl rfl rfl rfl rfl (by decide) rfl rfl ?_
  refine DL.pu 25 (.bool false) rfl (p_extract rfl rfl rfl) ?_
  refine DL.nil ?_
  refine TT.sq rfl ?_
  refine TT.cf rfl rfl rfl ?_
  refine TT.exit rfl ?_
  refine TT.sq rfl ?_
  refine TT.rg [0,1] [kq,kS] rfl rfl ?_
  refine DL.qu 31 (.agg (Cmd.ce (Cmd.mk a0.num a0.kind 0 0 a0.typ a0.attr a0.key z0) nS)) rfl (f_loadA (j:=0) ty_a33 ty_s33 rfl rfl rfl rfl) ?_
  refine DL.put (H':=[(some b4,.cells ((Cmd.ce (Cmd.mk a0.num a0.kind 0 0 a0.typ a0.attr a0.key z0) nS)) 33 (0,0)),(some b11,.stringIter ⟨#[116,97,107]⟩ 3),(some b5,mobj .i32 [(104,.func (.func 135) #[] #[ptr b1 0,ptr b4 0]),(111,.func (.func 136) #[] #[ptr b1 0,ptr b4 0]),(116,.func (.func 137) #[] #[ptr b1 0,ptr b4 0]),(97,.func (.func 138) #[] #[ptr b1 0,ptr b4 0]),(107,.func (.func 139) #[] #[ptr b1 0,ptr b4 0]),(100,.func (.func 140) #[] #[ptr b1 0,ptr b4 0])]),(some b2,.cells ((Cmd.ce (Cmd.mk a0.num a0.kind 0 0 a0.typ a0.attr a0.key z0) nS)) 33 (0,0))]) (i:=1) rfl (Wn.none rfl) rfl rfl (f_storeA (j:=3) ty_s33 rfl rfl rfl (cmd_one (sl_one (RowV.sl (IntRow.nil .u8 M3)))) rfl rfl rfl) (keep_none rfl) ?_
  refine DL.nil ?_
  obtain rfl:=Option.some.inj h8
  exact retF (rs:=[.cell 2 33]) (vs:=[.agg (Cmd.ce (Cmd.mk a0.num a0.kind 0 0 a0.typ a0.attr a0.key z0) nS)]) nS hE3 Tryz.func115 rfl rfl rfl (res_cons (ResV.cell (j:=3) ty_a33 ty_s33 rfl rfl rfl) res_nil) (IntRow.nil .u8 M3)
 replace h8:=(if_neg (by simpa using hs9_1)).symm.trans h8
 by_cases hs9_2 : t6 = [104]
 ·
  subst hs9_2
  replace h8:=(if_pos (by decide)).symm.trans h8
  refine DL.keep (X:=Nat) (u:=fun b => ptr b 0) (H':=fun b => (some b,.stringIter ⟨#[104]⟩ 0) :: [(some b5,mobj .i32 [(104,.func (.func 135) #[] #[ptr b1 0,ptr b4 0]),(111,.func (.func 136) #[] #[ptr b1 0,ptr b4 0]),(116,.func (.func 137) #[] #[ptr b1 0,ptr b4 0]),(97,.func (.func 138) #[] #[ptr b1 0,ptr b4 0]),(107,.func (.func 139) #[] #[ptr b1 0,ptr b4 0]),(100,.func (.func 140) #[] #[ptr b1 0,ptr b4 0])]),(some b4,.cells ((Cmd.ce (Cmd.mk a0.num a0.kind 0 0 0 0 z0 z0) nS)) 33 (0,0)),(some b2,.cells ((Cmd.ce zC nS)) 33 (0,0))]) (fun _ p hp => List.mem_cons_of_mem _ hp) (i:=3) rfl (Wn.none rfl) rfl rfl rfl (f_rangeText (s:=⟨#[104]⟩) (by kernel_rfl : Tryz.prog.underlying 9 = some .string) rfl rfl) ?_
  intro b12
  refine DL.nil ?_
  refine TT.bk rfl ?_
  refine TT.lp rfl ?_
  refine TT.sq rfl ?_
  refine TT.rg [0,1] [kx,kp] rfl rfl ?_
  refine DL.chr (j:=0) (c:=104) (wd:=1) rfl rfl rfl rfl rfl rfl (by decide) (by kernel_rfl) rfl rfl ?_
  refine DL.pu 25 (.bool true) rfl (p_extract rfl rfl rfl) ?_
  refine DL.nil ?_
  refine TT.sq rfl ?_
  refine TT.ct rfl rfl rfl ?_
  refine TT.skip ?_
  refine TT.bk rfl ?_
  refine TT.sq rfl ?_
  refine TT.rg [0,1] [kp,kp] rfl rfl ?_
  refine DL.pu 26 (.int .i32 104) rfl (p_extract rfl rfl rfl) ?_
  refine DL.pu 6 (.int .i32 104) rfl (p_assign rfl rfl) ?_
  refine DL.nil ?_
  refine TT.rg [0,1,2,3] [kp,kp,kq,kx] rfl rfl ?_
  refine DL.mv 27 (.map (some b5)) rfl rfl rfl ?_
  refine DL.mv 28 (.int .i32 104) rfl rfl rfl ?_
  refine DL.qu 29 (.func (.func 135) #[] #[ptr b1 0,ptr b4 0]) rfl (f_lookupV (v:=.func (.func 135) #[] #[ptr b1 0,ptr b4 0]) rfl (f_lookup (a:=104) (j:=1) ty_u162 ty_u21 ty_z1 rfl rfl rfl rfl)) ?_
  refine DL.turnM (M:=M3) (E:=[(some b4,.cells ((Cmd.ce (Cmd.mk a0.num a0.kind 0 0 0 0 z0 z0) nS)) 33 (0,0))]) (R:=[(some b12,.stringIter ⟨#[104]⟩ 1),(some b5,mobj .i32 [(104,.func (.func 135) #[] #[ptr b1 0,ptr b4 0]),(111,.func (.func 136) #[] #[ptr b1 0,ptr b4 0]),(116,.func (.func 137) #[] #[ptr b1 0,ptr b4 0]),(97,.func (.func 138) #[] #[ptr b1 0,ptr b4 0]),(107,.func (.func 139) #[] #[ptr b1 0,ptr b4 0]),(100,.func (.func 140) #[] #[ptr b1 0,ptr b4 0])]),(some b2,.cells ((Cmd.ce zC nS)) 33 (0,0))]) (fun b o e => hE3.mi b o e) [2,0,1,3] rfl rfl (fb135 hm_3) (args:=#[]) (caps:=#[ptr b1 0,ptr b4 0]) rfl (i:=3) rfl (Wn.none rfl) rfl rfl rfl rfl rfl rfl (args_val (vs:=[]) rfl) (fun w => enter135 _ w) ?_
  intro _
  refine DL.nil ?_
  refine TT.inBlock ?_
  refine TT.inLoop ?_
  refine TT.sq rfl ?_
  refine TT.rg [0,1] [kx,kp] rfl rfl ?_
  refine DL.chrE (j:=1) rfl rfl rfl rfl rfl rfl (by decide) rfl rfl ?_
  refine DL.pu 25 (.bool false) rfl (p_extract rfl rfl rfl) ?_
  refine DL.nil ?_
  refine TT.sq rfl ?_
  refine TT.cf rfl rfl rfl ?_
  refine TT.exit rfl ?_
  refine TT.sq rfl ?_
  refine TT.rg [0,1] [kq,kS] rfl rfl ?_
  refine DL.qu 31 (.agg (Cmd.ce (Cmd.mk a0.num a0.kind a0.handle 0 0 0 z0 z0) nS)) rfl (f_loadA (j:=0) ty_a33 ty_s33 rfl rfl rfl rfl) ?_
  refine DL.put (H':=[(some b4,.cells ((Cmd.ce (Cmd.mk a0.num a0.kind a0.handle 0 0 0 z0 z0) nS)) 33 (0,0)),(some b12,.stringIter ⟨#[104]⟩ 1),(some b5,mobj .i32 [(104,.func (.func 135) #[] #[ptr b1 0,ptr b4 0]),(111,.func (.func 136) #[] #[ptr b1 0,ptr b4 0]),(116,.func (.func 137) #[] #[ptr b1 0,ptr b4 0]),(97,.func (.func 138) #[] #[ptr b1 0,ptr b4 0]),(107,.func (.func 139) #[] #[ptr b1 0,ptr b4 0]),(100,.func (.func 140) #[] #[ptr b1 0,ptr b4 0])]),(some b2,.cells ((Cmd.ce (Cmd.mk a0.num a0.kind a0.handle 0 0 0 z0 z0) nS)) 33 (0,0))]) (i:=1) rfl (Wn.none rfl) rfl rfl (f_storeA (j:=3) ty_s33 rfl rfl rfl (cmd_one (sl_one (RowV.sl (IntRow.nil .u8 M3)))) rfl rfl rfl) (keep_none rfl) ?_
  refine DL.nil ?_
  obtain rfl:=Option.some.inj h8
  exact retF (rs:=[.cell 2 33]) (vs:=[.agg (Cmd.ce (Cmd.mk a0.num a0.kind a0.handle 0 0 0 z0 z0) nS)]) nS hE3 Tryz.func115 rfl rfl rfl (res_cons (ResV.cell (j:=3) ty_a33 ty_s33 rfl rfl rfl) res_nil) (IntRow.nil .u8 M3)
 replace h8:=(if_neg (by simpa using hs9_2)).symm.trans h8
 by_cases hs9_3 : t6 = [104,100]
 ·
  subst hs9_3
  replace h8:=(if_pos (by decide)).symm.trans h8
  refine DL.keep (X:=Nat) (u:=fun b => ptr b 0) (H':=fun b => (some b,.stringIter ⟨#[104,100]⟩ 0) :: [(some b5,mobj .i32 [(104,.func (.func 135) #[] #[ptr b1 0,ptr b4 0]),(111,.func (.func 136) #[] #[ptr b1 0,ptr b4 0]),(116,.func (.func 137) #[] #[ptr b1 0,ptr b4 0]),(97,.func (.func 138) #[] #[ptr b1 0,ptr b4 0]),(107,.func (.func 139) #[] #[ptr b1 0,ptr b4 0]),(100,.func (.func 140) #[] #[ptr b1 0,ptr b4 0])]),(some b4,.cells ((Cmd.ce (Cmd.mk a0.num a0.kind 0 0 0 0 z0 z0) nS)) 33 (0,0)),(some b2,.cells ((Cmd.ce zC nS)) 33 (0,0))]) (fun _ p hp => List.mem_cons_of_mem _ hp) (i:=3) rfl (Wn.none rfl) rfl rfl rfl (f_rangeText (s:=⟨#[104,100]⟩) (by kernel_rfl : Tryz.prog.underlying 9 = some .string) rfl rfl) ?_
  intro b13
  refine DL.nil ?_
  refine TT.bk rfl ?_
  refine TT.lp rfl ?_
  refine TT.sq rfl ?_
  refine TT.rg [0,1] [kx,kp] rfl rfl ?_
  refine DL.chr (j:=0) (c:=104) (wd:=1) rfl rfl rfl rfl rfl rfl (by decide) (by kernel_rfl) rfl rfl ?_
  refine DL.pu 25 (.bool true) rfl (p_extract rfl rfl rfl) ?_
  refine DL.nil ?_
  refine TT.sq rfl ?_
  refine TT.ct rfl rfl rfl ?_
  refine TT.skip ?_
  refine TT.bk rfl ?_
  refine TT.sq rfl ?_
  refine TT.rg [0,1] [kp,kp] rfl rfl ?_
  refine DL.pu 26 (.int .i32 104) rfl (p_extract rfl rfl rfl) ?_
  refine DL.pu 6 (.int .i32 104) rfl (p_assign rfl rfl) ?_
  refine DL.nil ?_
  refine TT.rg [0,1,2,3] [kp,kp,kq,kx] rfl rfl ?_
  refine DL.mv 27 (.map (some b5)) rfl rfl rfl ?_
  refine DL.mv 28 (.int .i32 104) rfl rfl rfl ?_
  refine DL.qu 29 (.func (.func 135) #[] #[ptr b1 0,ptr b4 0]) rfl (f_lookupV (v:=.func (.func 135) #[] #[ptr b1 0,ptr b4 0]) rfl (f_lookup (a:=104) (j:=1) ty_u162 ty_u21 ty_z1 rfl rfl rfl rfl)) ?_
  refine DL.turnM (M:=M3) (E:=[(some b4,.cells ((Cmd.ce (Cmd.mk a0.num a0.kind 0 0 0 0 z0 z0) nS)) 33 (0,0))]) (R:=[(some b13,.stringIter ⟨#[104,100]⟩ 1),(some b5,mobj .i32 [(104,.func (.func 135) #[] #[ptr b1 0,ptr b4 0]),(111,.func (.func 136) #[] #[ptr b1 0,ptr b4 0]),(116,.func (.func 137) #[] #[ptr b1 0,ptr b4 0]),(97,.func (.func 138) #[] #[ptr b1 0,ptr b4 0]),(107,.func (.func 139) #[] #[ptr b1 0,ptr b4 0]),(100,.func (.func 140) #[] #[ptr b1 0,ptr b4 0])]),(some b2,.cells ((Cmd.ce zC nS)) 33 (0,0))]) (fun b o e => hE3.mi b o e) [2,0,1,3] rfl rfl (fb135 hm_3) (args:=#[]) (caps:=#[ptr b1 0,ptr b4 0]) rfl (i:=3) rfl (Wn.none rfl) rfl rfl rfl rfl rfl rfl (args_val (vs:=[]) rfl) (fun w => enter135 _ w) ?_
  intro _
  refine DL.nil ?_
  refine TT.inBlock ?_
  refine TT.inLoop ?_
  refine TT.sq rfl ?_
  refine TT.rg [0,1] [kx,kp] rfl rfl ?_
  refine DL.chr (j:=1) (c:=100) (wd:=1) rfl rfl rfl rfl rfl rfl (by decide) (by kernel_rfl) rfl rfl ?_
  refine DL.pu 25 (.bool true) rfl (p_extract rfl rfl rfl) ?_
  refine DL.nil ?_
  refine TT.sq rfl ?_
  refine TT.ct rfl rfl rfl ?_
  refine TT.skip ?_
  refine TT.bk rfl ?_
  refine TT.sq rfl ?_
  refine TT.rg [0,1] [kp,kp] rfl rfl ?_
  refine DL.pu 26 (.int .i32 100) rfl (p_extract rfl rfl rfl) ?_
  refine DL.pu 6 (.int .i32 100) rfl (p_assign rfl rfl) ?_
  refine DL.nil ?_
  refine TT.rg [0,1,2,3] [kp,kp,kq,kx] rfl rfl ?_
  refine DL.mv 27 (.map (some b5)) rfl rfl rfl ?_
  refine DL.mv 28 (.int .i32 100) rfl rfl rfl ?_
  refine DL.qu 29 (.func (.func 140) #[] #[ptr b1 0,ptr b4 0]) rfl (f_lookupV (v:=.func (.func 140) #[] #[ptr b1 0,ptr b4 0]) rfl (f_lookup (a:=100) (j:=2) ty_u162 ty_u21 ty_z1 rfl rfl rfl rfl)) ?_
  refine DL.turnM (M:=M3) (E:=[(some b4,.cells ((Cmd.ce (Cmd.mk a0.num a0.kind a0.handle 0 0 0 z0 z0) nS)) 33 (0,0))]) (R:=[(some b13,.stringIter ⟨#[104,100]⟩ 2),(some b5,mobj .i32 [(104,.func (.func 135) #[] #[ptr b1 0,ptr b4 0]),(111,.func (.func 136) #[] #[ptr b1 0,ptr b4 0]),(116,.func (.func 137) #[] #[ptr b1 0,ptr b4 0]),(97,.func (.func 138) #[] #[ptr b1 0,ptr b4 0]),(107,.func (.func 139) #[] #[ptr b1 0,ptr b4 0]),(100,.func (.func 140) #[] #[ptr b1 0,ptr b4 0])]),(some b2,.cells ((Cmd.ce zC nS)) 33 (0,0))]) (fun b o e => hE3.mi b o e) [0,1,2,3] rfl rfl (fb140 (IntRow.mono hr_a0_38 hx3) hm_3) (args:=#[]) (caps:=#[ptr b1 0,ptr b4 0]) rfl (i:=3) rfl (Wn.none rfl) rfl rfl rfl rfl rfl rfl (args_val (vs:=[]) rfl) (fun w => enter140 _ w) ?_
  intro _
  refine DL.nil ?_
  refine TT.inBlock ?_
  refine TT.inLoop ?_
  refine TT.sq rfl ?_
  refine TT.rg [0,1] [kx,kp] rfl rfl ?_
  refine DL.chrE (j:=1) rfl rfl rfl rfl rfl rfl (by decide) rfl rfl ?_
  refine DL.pu 25 (.bool false) rfl (p_extract rfl rfl rfl) ?_
  refine DL.nil ?_
  refine TT.sq rfl ?_
  refine TT.cf rfl rfl rfl ?_
  refine TT.exit rfl ?_
  refine TT.sq rfl ?_
  refine TT.rg [0,1] [kq,kS] rfl rfl ?_
  refine DL.qu 31 (.agg (Cmd.ce (Cmd.mk a0.num a0.kind a0.handle 0 0 0 z0 a0.data) a0_38)) rfl (f_loadA (j:=0) ty_a33 ty_s33 rfl rfl rfl rfl) ?_
  refine DL.put (H':=[(some b4,.cells ((Cmd.ce (Cmd.mk a0.num a0.kind a0.handle 0 0 0 z0 a0.data) a0_38)) 33 (0,0)),(some b13,.stringIter ⟨#[104,100]⟩ 2),(some b5,mobj .i32 [(104,.func (.func 135) #[] #[ptr b1 0,ptr b4 0]),(111,.func (.func 136) #[] #[ptr b1 0,ptr b4 0]),(116,.func (.func 137) #[] #[ptr b1 0,ptr b4 0]),(97,.func (.func 138) #[] #[ptr b1 0,ptr b4 0]),(107,.func (.func 139) #[] #[ptr b1 0,ptr b4 0]),(100,.func (.func 140) #[] #[ptr b1 0,ptr b4 0])]),(some b2,.cells ((Cmd.ce (Cmd.mk a0.num a0.kind a0.handle 0 0 0 z0 a0.data) a0_38)) 33 (0,0))]) (i:=1) rfl (Wn.none rfl) rfl rfl (f_storeA (j:=3) ty_s33 rfl rfl rfl (cmd_one (sl_one (RowV.sl (IntRow.mono hr_a0_38 hx3)))) rfl rfl rfl) (keep_none rfl) ?_
  refine DL.nil ?_
  obtain rfl:=Option.some.inj h8
  exact retF (rs:=[.cell 2 33]) (vs:=[.agg (Cmd.ce (Cmd.mk a0.num a0.kind a0.handle 0 0 0 z0 a0.data) a0_38)]) a0_38 hE3 Tryz.func115 rfl rfl rfl (res_cons (ResV.cell (j:=3) ty_a33 ty_s33 rfl rfl rfl) res_nil) (IntRow.mono hr_a0_38 hx3)
 replace h8:=(if_neg (by simpa using hs9_3)).symm.trans h8
 by_cases hs9_4 : t6 = [104,111]
 ·
  subst hs9_4
  replace h8:=(if_pos (by decide)).symm.trans h8
  refine DL.keep (X:=Nat) (u:=fun b => ptr b 0) (H':=fun b => (some b,.stringIter ⟨#[104,111]⟩ 0) :: [(some b5,mobj .i32 [(104,.func (.func 135) #[] #[ptr b1 0,ptr b4 0]),(111,.func (.func 136) #[] #[ptr b1 0,ptr b4 0]),(116,.func (.func 137) #[] #[ptr b1 0,ptr b4 0]),(97,.func (.func 138) #[] #[ptr b1 0,ptr b4 0]),(107,.func (.func 139) #[] #[ptr b1 0,ptr b4 0]),(100,.func (.func 140) #[] #[ptr b1 0,ptr b4 0])]),(some b4,.cells ((Cmd.ce (Cmd.mk a0.num a0.kind 0 0 0 0 z0 z0) nS)) 33 (0,0)),(some b2,.cells ((Cmd.ce zC nS)) 33 (0,0))]) (fun _ p hp => List.mem_cons_of_mem _ hp) (i:=3) rfl (Wn.none rfl) rfl rfl rfl (f_rangeText (s:=⟨#[104,111]⟩) (by kernel_rfl : Tryz.prog.underlying 9 = some .string) rfl rfl) ?_
  intro b14
  refine DL.nil ?_
  refine TT.bk rfl ?_
  refine TT.lp rfl ?_
  refine TT.sq rfl ?_
  refine TT.rg [0,1] [kx,kp] rfl rfl ?_
  refine DL.chr (j:=0) (c:=104) (wd:=1) rfl rfl rfl rfl rfl rfl (by decide) (by kernel_rfl) rfl rfl ?_
  refine DL.pu 25 (.bool true) rfl (p_extract rfl rfl rfl) ?_
  refine DL.nil ?_
  refine TT.sq rfl ?_
  refine TT.ct rfl rfl rfl ?_
  refine TT.skip ?_
  refine TT.bk rfl ?_
  refine TT.sq rfl ?_
  refine TT.rg [0,1] [kp,kp] rfl rfl ?_
  refine DL.pu 26 (.int .i32 104) rfl (p_extract rfl rfl rfl) ?_
  refine DL.pu 6 (.int .i32 104) rfl (p_assign rfl rfl) ?_
  refine DL.nil ?_
  refine TT.rg [0,1,2,3] [kp,kp,kq,kx] rfl rfl ?_
  refine DL.mv 27 (.map (some b5)) rfl rfl rfl ?_
  refine DL.mv 28 (.int .i32 104) rfl rfl rfl ?_
  refine DL.qu 29 (.func (.func 135) #[] #[ptr b1 0,ptr b4 0]) rfl (f_lookupV (v:=.func (.func 135) #[] #[ptr b1 0,ptr b4 0]) rfl (f_lookup (a:=104) (j:=1) ty_u162 ty_u21 ty_z1 rfl rfl rfl rfl)) ?_
  refine DL.turnM (M:=M3) (E:=[(some b4,.cells ((Cmd.ce (Cmd.mk a0.num a0.kind 0 0 0 0 z0 z0) nS)) 33 (0,0))]) (R:=[(some b14,.stringIter ⟨#[104,111]⟩ 1),(some b5,mobj .i32 [(104,.func (.func 135) #[] #[ptr b1 0,ptr b4 0]),(111,.func (.func 136) #[] #[ptr b1 0,ptr b4 0]),(116,.func (.func 137) #[] #[ptr b1 0,ptr b4 0]),(97,.func (.func 138) #[] #[ptr b1 0,ptr b4 0]),(107,.func (.func 139) #[] #[ptr b1 0,ptr b4 0]),(100,.func (.func 140) #[] #[ptr b1 0,ptr b4 0])]),(some b2,.cells ((Cmd.ce zC nS)) 33 (0,0))]) (fun b o e => hE3.mi b o e) [2,0,1,3] rfl rfl (fb135 hm_3) (args:=#[]) (caps:=#[ptr b1 0,ptr b4 0]) rfl (i:=3) rfl (Wn.none rfl) rfl rfl rfl rfl rfl rfl (args_val (vs:=[]) rfl) (fun w => enter135 _ w) ?_
  intro _
  refine DL.nil ?_
  refine TT.inBlock ?_
  refine TT.inLoop ?_
  refine TT.sq rfl ?_
  refine TT.rg [0,1] [kx,kp] rfl rfl ?_
  refine DL.chr (j:=1) (c:=111) (wd:=1) rfl rfl rfl rfl rfl rfl (by decide) (by kernel_rfl) rfl rfl ?_
  refine DL.pu 25 (.bool true) rfl (p_extract rfl rfl rfl) ?_
  refine DL.nil ?_
  refine TT.sq rfl ?_
  refine TT.ct rfl rfl rfl ?_
  refine TT.skip ?_
  refine TT.bk rfl ?_
  refine TT.sq rfl ?_
  refine TT.rg [0,1] [kp,kp] rfl rfl ?_
  refine DL.pu 26 (.int .i32 111) rfl (p_extract rfl rfl rfl) ?_
  refine DL.pu 6 (.int .i32 111) rfl (p_assign rfl rfl) ?_
  refine DL.nil ?_
  refine TT.rg [0,1,2,3] [kp,kp,kq,kx] rfl rfl ?_
  refine DL.mv 27 (.map (some b5)) rfl rfl rfl ?_
  refine DL.mv 28 (.int .i32 111) rfl rfl rfl ?_
  refine DL.qu 29 (.func (.func 136) #[] #[ptr b1 0,ptr b4 0]) rfl (f_lookupV (v:=.func (.func 136) #[] #[ptr b1 0,ptr b4 0]) rfl (f_lookup (a:=111) (j:=2) ty_u162 ty_u21 ty_z1 rfl rfl rfl rfl)) ?_
  refine DL.turnM (M:=M3) (E:=[(some b4,.cells ((Cmd.ce (Cmd.mk a0.num a0.kind a0.handle 0 0 0 z0 z0) nS)) 33 (0,0))]) (R:=[(some b14,.stringIter ⟨#[104,111]⟩ 2),(some b5,mobj .i32 [(104,.func (.func 135) #[] #[ptr b1 0,ptr b4 0]),(111,.func (.func 136) #[] #[ptr b1 0,ptr b4 0]),(116,.func (.func 137) #[] #[ptr b1 0,ptr b4 0]),(97,.func (.func 138) #[] #[ptr b1 0,ptr b4 0]),(107,.func (.func 139) #[] #[ptr b1 0,ptr b4 0]),(100,.func (.func 140) #[] #[ptr b1 0,ptr b4 0])]),(some b2,.cells ((Cmd.ce zC nS)) 33 (0,0))]) (fun b o e => hE3.mi b o e) [0,1,2,3] rfl rfl (fb136 hm_3) (args:=#[]) (caps:=#[ptr b1 0,ptr b4 0]) rfl (i:=3) rfl (Wn.none rfl) rfl rfl rfl rfl rfl rfl (args_val (vs:=[]) rfl) (fun w => enter136 _ w) ?_
  intro _
  refine DL.nil ?_
  refine TT.inBlock ?_
  refine TT.inLoop ?_
  refine TT.sq rfl ?_
  refine TT.rg [0,1] [kx,kp] rfl rfl ?_
  refine DL.chrE (j:=1) rfl rfl rfl rfl rfl rfl (by decide) rfl rfl ?_
  refine DL.pu 25 (.bool false) rfl (p_extract rfl rfl rfl) ?_
  refine DL.nil ?_
  refine TT.sq rfl ?_
  refine TT.cf rfl rfl rfl ?_
  refine TT.exit rfl ?_
  refine TT.sq rfl ?_
  refine TT.rg [0,1] [kq,kS] rfl rfl ?_
  refine DL.qu 31 (.agg (Cmd.ce (Cmd.mk a0.num a0.kind a0.handle a0.other 0 0 z0 z0) nS)) rfl (f_loadA (j:=0) ty_a33 ty_s33 rfl rfl rfl rfl) ?_
  refine DL.put (H':=[(some b4,.cells ((Cmd.ce (Cmd.mk a0.num a0.kind a0.handle a0.other 0 0 z0 z0) nS)) 33 (0,0)),(some b14,.stringIter ⟨#[104,111]⟩ 2),(some b5,mobj .i32 [(104,.func (.func 135) #[] #[ptr b1 0,ptr b4 0]),(111,.func (.func 136) #[] #[ptr b1 0,ptr b4 0]),(116,.func (.func 137) #[] #[ptr b1 0,ptr b4 0]),(97,.func (.func 138) #[] #[ptr b1 0,ptr b4 0]),(107,.func (.func 139) #[] #[ptr b1 0,ptr b4 0]),(100,.func (.func 140) #[] #[ptr b1 0,ptr b4 0])]),(some b2,.cells ((Cmd.ce (Cmd.mk a0.num a0.kind a0.handle a0.other 0 0 z0 z0) nS)) 33 (0,0))]) (i:=1) rfl (Wn.none rfl) rfl rfl (f_storeA (j:=3) ty_s33 rfl rfl rfl (cmd_one (sl_one (RowV.sl (IntRow.nil .u8 M3)))) rfl rfl rfl) (keep_none rfl) ?_
  refine DL.nil ?_
  obtain rfl:=Option.some.inj h8
  exact retF (rs:=[.cell 2 33]) (vs:=[.agg (Cmd.ce (Cmd.mk a0.num a0.kind a0.handle a0.other 0 0 z0 z0) nS)]) nS hE3 Tryz.func115 rfl rfl rfl (res_cons (ResV.cell (j:=3) ty_a33 ty_s33 rfl rfl rfl) res_nil) (IntRow.nil .u8 M3)
 replace h8:=(if_neg (by simpa using hs9_4)).symm.trans h8
 by_cases hs9_5 : t6 = [104,97,100]
 ·
  subst hs9_5
  replace h8:=(if_pos (by decide)).symm.trans h8
  refine DL.keep (X:=Nat) (u:=fun b => ptr b 0) (H':=fun b => (some b,.stringIter ⟨#[104,97,100]⟩ 0) :: [(some b5,mobj .i32 [(104,.func (.func 135) #[] #[ptr b1 0,ptr b4 0]),(111,.func (.func 136) #[] #[ptr b1 0,ptr b4 0]),(116,.func (.func 137) #[] #[ptr b1 0,ptr b4 0]),(97,.func (.func 138) #[] #[ptr b1 0,ptr b4 0]),(107,.func (.func 139) #[] #[ptr b1 0,ptr b4 0]),(100,.func (.func 140) #[] #[ptr b1 0,ptr b4 0])]),(some b4,.cells ((Cmd.ce (Cmd.mk a0.num a0.kind 0 0 0 0 z0 z0) nS)) 33 (0,0)),(some b2,.cells ((Cmd.ce zC nS)) 33 (0,0))]) (fun _ p hp => List.mem_cons_of_mem _ hp) (i:=3) rfl (Wn.none rfl) rfl rfl rfl (f_rangeText (s:=⟨#[104,97,100]⟩) (by kernel_rfl : Tryz.prog.underlying 9 = some .string) rfl rfl) ?_
  intro b15
  refine DL.nil ?_
  refine TT.bk rfl ?_
  refine TT.lp rfl ?_
  refine TT.sq rfl ?_
  refine TT.rg [0,1] [kx,kp] rfl rfl ?_
  refine DL.chr (j:=0) (c:=104) (wd:=1) rfl rfl rfl rfl rfl rfl (by decide) (by kernel_rfl) rfl rfl ?_
  refine DL.pu 25 (.bool true) rfl (p_extract rfl rfl rfl) ?_
  refine DL.nil ?_
  refine TT.sq rfl ?_
  refine TT.ct rfl rfl rfl ?_
  refine TT.skip ?_
  refine TT.bk rfl ?_
  refine TT.sq rfl ?_
  refine TT.rg [0,1] [kp,kp] rfl rfl ?_
  refine DL.pu 26 (.int .i32 104) rfl (p_extract rfl rfl rfl) ?_
  refine DL.pu 6 (.int .i32 104) rfl (p_assign rfl rfl) ?_
  refine DL.nil ?_
  refine TT.rg [0,1,2,3] [kp,kp,kq,kx] rfl rfl ?_
  refine DL.mv 27 (.map (some b5)) rfl rfl rfl ?_
  refine DL.mv 28 (.int .i32 104) rfl rfl rfl ?_
  refine DL.qu 29 (.func (.func 135) #[] #[ptr b1 0,ptr b4 0]) rfl (f_lookupV (v:=.func (.func 135) #[] #[ptr b1 0,ptr b4 0]) rfl (f_lookup (a:=104) (j:=1) ty_u162 ty_u21 ty_z1 rfl rfl rfl rfl)) ?_
  refine DL.turnM (M:=M3) (E:=[(some b4,.cells ((Cmd.ce (Cmd.mk a0.num a0.kind 0 0 0 0 z0 z0) nS)) 33 (0,0))]) (R:=[(some b15,.stringIter ⟨#[104,97,100]⟩ 1),(some b5,mobj .i32 [(104,.func (.func 135) #[] #[ptr b1 0,ptr b4 0]),(111,.func (.func 136) #[] #[ptr b1 0,ptr b4 0]),(116,.func (.func 137) #[] #[ptr b1 0,ptr b4 0]),(97,.func (.func 138) #[] #[ptr b1 0,ptr b4 0]),(107,.func (.func 139) #[] #[ptr b1 0,ptr b4 0]),(100,.func (.func 140) #[] #[ptr b1 0,ptr b4 0])]),(some b2,.cells ((Cmd.ce zC nS)) 33 (0,0))]) (fun b o e => hE3.mi b o e) [2,0,1,3] rfl rfl (fb135 hm_3) (args:=#[]) (caps:=#[ptr b1 0,ptr b4 0]) rfl (i:=3) rfl (Wn.none rfl) rfl rfl rfl rfl rfl rfl (args_val (vs:=[]) rfl) (fun w => enter135 _ w) ?_
  intro _
  refine DL.nil ?_
  refine TT.inBlock ?_
  refine TT.inLoop ?_
  refine TT.sq rfl ?_
  refine TT.rg [0,1] [kx,kp] rfl rfl ?_
  refine DL.chr (j:=1) (c:=97) (wd:=1) rfl rfl rfl rfl rfl rfl (by decide) (by kernel_rfl) rfl rfl ?_
  refine DL.pu 25 (.bool true) rfl (p_extract rfl rfl rfl) ?_
  refine DL.nil ?_
  refine TT.sq rfl ?_
  refine TT.ct rfl rfl rfl ?_
  refine TT.skip ?_
  refine TT.bk rfl ?_
  refine TT.sq rfl ?_
  refine TT.rg [0,1] [kp,kp] rfl rfl ?_
  refine DL.pu 26 (.int .i32 97) rfl (p_extract rfl rfl rfl) ?_
  refine DL.pu 6 (.int .i32 97) rfl (p_assign rfl rfl) ?_
  refine DL.nil ?_
  refine TT.rg [0,1,2,3] [kp,kp,kq,kx] rfl rfl ?_
  refine DL.mv 27 (.map (some b5)) rfl rfl rfl ?_
  refine DL.mv 28 (.int .i32 97) rfl rfl rfl ?_
  refine DL.qu 29 (.func (.func 138) #[] #[ptr b1 0,ptr b4 0]) rfl (f_lookupV (v:=.func (.func 138) #[] #[ptr b1 0,ptr b4 0]) rfl (f_lookup (a:=97) (j:=2) ty_u162 ty_u21 ty_z1 rfl rfl rfl rfl)) ?_
  refine DL.turnM (M:=M3) (E:=[(some b4,.cells ((Cmd.ce (Cmd.mk a0.num a0.kind a0.handle 0 0 0 z0 z0) nS)) 33 (0,0))]) (R:=[(some b15,.stringIter ⟨#[104,97,100]⟩ 2),(some b5,mobj .i32 [(104,.func (.func 135) #[] #[ptr b1 0,ptr b4 0]),(111,.func (.func 136) #[] #[ptr b1 0,ptr b4 0]),(116,.func (.func 137) #[] #[ptr b1 0,ptr b4 0]),(97,.func (.func 138) #[] #[ptr b1 0,ptr b4 0]),(107,.func (.func 139) #[] #[ptr b1 0,ptr b4 0]),(100,.func (.func 140) #[] #[ptr b1 0,ptr b4 0])]),(some b2,.cells ((Cmd.ce zC nS)) 33 (0,0))]) (fun b o e => hE3.mi b o e) [0,1,2,3] rfl rfl (fb138 hm_3) (args:=#[]) (caps:=#[ptr b1 0,ptr b4 0]) rfl (i:=3) rfl (Wn.none rfl) rfl rfl rfl rfl rfl rfl (args_val (vs:=[]) rfl) (fun w => enter138 _ w) ?_
  intro _
  refine DL.nil ?_
  refine TT.inBlock ?_
  refine TT.inLoop ?_
  refine TT.sq rfl ?_
  refine TT.rg [0,1] [kx,kp] rfl rfl ?_
  refine DL.chr (j:=1) (c:=100) (wd:=1) rfl rfl rfl rfl rfl rfl (by decide) (by kernel_rfl) rfl rfl ?_
  refine DL.pu 25 (.bool true) rfl (p_extract rfl rfl rfl) ?_
  refine DL.nil ?_
  refine TT.sq rfl ?_
  refine TT.ct rfl rfl rfl ?_
  refine TT.skip ?_
  refine TT.bk rfl ?_
  refine TT.sq rfl ?_
  refine TT.rg [0,1] [kp,kp] rfl rfl ?_
  refine DL.pu 26 (.int .i32 100) rfl (p_extract rfl rfl rfl) ?_
  refine DL.pu 6 (.int .i32 100) rfl (p_assign rfl rfl) ?_
  refine DL.nil ?_
  refine TT.rg [0,1,2,3] [kp,kp,kq,kx] rfl rfl ?_
  refine DL.mv 27 (.map (some b5)) rfl rfl rfl ?_
  refine DL.mv 28 (.int .i32 100) rfl rfl rfl ?_
  refine DL.qu 29 (.func (.func 140) #[] #[ptr b1 0,ptr b4 0]) rfl (f_lookupV (v:=.func (.func 140) #[] #[ptr b1 0,ptr b4 0]) rfl (f_lookup (a:=100) (j:=2) ty_u162 ty_u21 ty_z1 rfl rfl rfl rfl)) ?_
  refine DL.turnM (M:=M3) (E:=[(some b4,.cells ((Cmd.ce (Cmd.mk a0.num a0.kind a0.handle 0 0 a0.attr z0 z0) nS)) 33 (0,0))]) (R:=[(some b15,.stringIter ⟨#[104,97,100]⟩ 3),(some b5,mobj .i32 [(104,.func (.func 135) #[] #[ptr b1 0,ptr b4 0]),(111,.func (.func 136) #[] #[ptr b1 0,ptr b4 0]),(116,.func (.func 137) #[] #[ptr b1 0,ptr b4 0]),(97,.func (.func 138) #[] #[ptr b1 0,ptr b4 0]),(107,.func (.func 139) #[] #[ptr b1 0,ptr b4 0]),(100,.func (.func 140) #[] #[ptr b1 0,ptr b4 0])]),(some b2,.cells ((Cmd.ce zC nS)) 33 (0,0))]) (fun b o e => hE3.mi b o e) [0,1,2,3] rfl rfl (fb140 (IntRow.mono hr_a0_38 hx3) hm_3) (args:=#[]) (caps:=#[ptr b1 0,ptr b4 0]) rfl (i:=3) rfl (Wn.none rfl) rfl rfl rfl rfl rfl rfl (args_val (vs:=[]) rfl) (fun w => enter140 _ w) ?_
  intro _
  refine DL.nil ?_
  refine TT.inBlock ?_
  refine TT.inLoop ?_
  refine TT.sq rfl ?_
  refine TT.rg [0,1] [kx,kp] rfl rfl ?_
  refine DL.chrE (j:=1) rfl rfl rfl rfl rfl rfl (by decide) rfl rfl ?_
  refine DL.pu 25 (.bool false) rfl (p_extract rfl rfl rfl) ?_
  refine DL.nil ?_
  refine TT.sq rfl ?_
  refine TT.cf rfl rfl rfl ?_
  refine TT.exit rfl ?_
  refine TT.sq rfl ?_
  refine TT.rg [0,1] [kq,kS] rfl rfl ?_
  refine DL.qu 31 (.agg (Cmd.ce (Cmd.mk a0.num a0.kind a0.handle 0 0 a0.attr z0 a0.data) a0_38)) rfl (f_loadA (j:=0) ty_a33 ty_s33 rfl rfl rfl rfl) ?_
  refine DL.put (H':=[(some b4,.cells ((Cmd.ce (Cmd.mk a0.num a0.kind a0.handle 0 0 a0.attr z0 a0.data) a0_38)) 33 (0,0)),(some b15,.stringIter ⟨#[104,97,100]⟩ 3),(some b5,mobj .i32 [(104,.func (.func 135) #[] #[ptr b1 0,ptr b4 0]),(111,.func (.func 136) #[] #[ptr b1 0,ptr b4 0]),(116,.func (.func 137) #[] #[ptr b1 0,ptr b4 0]),(97,.func (.func 138) #[] #[ptr b1 0,ptr b4 0]),(107,.func (.func 139) #[] #[ptr b1 0,ptr b4 0]),(100,.func (.func 140) #[] #[ptr b1 0,ptr b4 0])]),(some b2,.cells ((Cmd.ce (Cmd.mk a0.num a0.kind a0.handle 0 0 a0.attr z0 a0.data) a0_38)) 33 (0,0))]) (i:=1) rfl (Wn.none rfl) rfl rfl (f_storeA (j:=3) ty_s33 rfl rfl rfl (cmd_one (sl_one (RowV.sl (IntRow.mono hr_a0_38 hx3)))) rfl rfl rfl) (keep_none rfl) ?_
  refine DL.nil ?_
  obtain rfl:=Option.some.inj h8
  exact retF (rs:=[.cell 2 33]) (vs:=[.agg (Cmd.ce (Cmd.mk a0.num a0.kind a0.handle 0 0 a0.attr z0 a0.data) a0_38)]) a0_38 hE3 Tryz.func115 rfl rfl rfl (res_cons (ResV.cell (j:=3) ty_a33 ty_s33 rfl rfl rfl) res_nil) (IntRow.mono hr_a0_38 hx3)
 replace h8:=(if_neg (by simpa using hs9_5)).symm.trans h8
 by_cases hs9_6 : t6 = [104,116,97,100]
 ·
  subst hs9_6
  replace h8:=(if_pos (by decide)).symm.trans h8
  refine DL.keep (X:=Nat) (u:=fun b => ptr b 0) (H':=fun b => (some b,.stringIter ⟨#[104,116,97,100]⟩ 0) :: [(some b5,mobj .i32 [(104,.func (.func 135) #[] #[ptr b1 0,ptr b4 0]),(111,.func (.func 136) #[] #[ptr b1 0,ptr b4 0]),(116,.func (.func 137) #[] #[ptr b1 0,ptr b4 0]),(97,.func (.func 138) #[] #[ptr b1 0,ptr b4 0]),(107,.func (.func 139) #[] #[ptr b1 0,ptr b4 0]),(100,.func (.func 140) #[] #[ptr b1 0,ptr b4 0])]),(some b4,.cells ((Cmd.ce (Cmd.mk a0.num a0.kind 0 0 0 0 z0 z0) nS)) 33 (0,0)),(some b2,.cells ((Cmd.ce zC nS)) 33 (0,0))]) (fun _ p hp => List.mem_cons_of_mem _ hp) (i:=3) rfl (Wn.none rfl) rfl rfl rfl (f_rangeText (s:=⟨#[104,116,97,100]⟩) (by kernel_rfl : Tryz.prog.underlying 9 = some .string) rfl rfl) ?_
  intro b16
  refine DL.nil ?_
  refine TT.bk rfl ?_
  refine TT.lp rfl ?_
  refine TT.sq rfl ?_
  refine TT.rg [0,1] [kx,kp] rfl rfl ?_
  refine DL.chr (j:=0) (c:=104) (wd:=1) rfl rfl rfl rfl rfl rfl (by decide) (by kernel_rfl) rfl rfl ?_
  refine DL.pu 25 (.bool true) rfl (p_extract rfl rfl rfl) ?_
  refine DL.nil ?_
  refine TT.sq rfl ?_
  refine TT.ct rfl rfl rfl ?_
  refine TT.skip ?_
  refine TT.bk rfl ?_
  refine TT.sq rfl ?_
  refine TT.rg [0,1] [kp,kp] rfl rfl ?_
  refine DL.pu 26 (.int .i32 104) rfl (p_extract rfl rfl rfl) ?_
  refine DL.pu 6 (.int .i32 104) rfl (p_assign rfl rfl) ?_
  refine DL.nil ?_
  refine TT.rg [0,1,2,3] [kp,kp,kq,kx] rfl rfl ?_
  refine DL.mv 27 (.map (some b5)) rfl rfl rfl ?_
  refine DL.mv 28 (.int .i32 104) rfl rfl rfl ?_
  refine DL.qu 29 (.func (.func 135) #[] #[ptr b1 0,ptr b4 0]) rfl (f_lookupV (v:=.func (.func 135) #[] #[ptr b1 0,ptr b4 0]) rfl (f_lookup (a:=104) (j:=1) ty_u162 ty_u21 ty_z1 rfl rfl rfl rfl)) ?_
  refine DL.turnM (M:=M3) (E:=[(some b4,.cells ((Cmd.ce (Cmd.mk a0.num a0.kind 0 0 0 0 z0 z0) nS)) 33 (0,0))]) (R:=[(some b16,.stringIter ⟨#[104,116,97,100]⟩ 1),(some b5,mobj .i32 [(104,.func (.func 135) #[] #[ptr b1 0,ptr b4 0]),(111,.func (.func 136) #[] #[ptr b1 0,ptr b4 0]),(116,.func (.func 137) #[] #[ptr b1 0,ptr b4 0]),(97,.func (.func 138) #[] #[ptr b1 0,ptr b4 0]),(107,.func (.func 139) #[] #[ptr b1 0,ptr b4 0]),(100,.func (.func 140) #[] #[ptr b1 0,ptr b4 0])]),(some b2,.cells ((Cmd.ce zC nS)) 33 (0,0))]) (fun b o e => hE3.mi b o e) [2,0,1,3] rfl rfl (fb135 hm_3) (args:=#[]) (caps:=#[ptr b1 0,ptr b4 0]) rfl (i:=3) rfl (Wn.none rfl) rfl rfl rfl rfl rfl rfl (args_val (vs:=[]) rfl) (fun w => enter135 _ w) ?_
  intro _
  refine DL.nil ?_
  refine TT.inBlock ?_
  refine TT.inLoop ?_
  refine TT.sq rfl ?_
  refine TT.rg [0,1] [kx,kp] rfl rfl ?_
  refine DL.chr (j:=1) (c:=116) (wd:=1) rfl rfl rfl rfl rfl rfl (by decide) (by kernel_rfl) rfl rfl ?_
  refine DL.pu 25 (.bool true) rfl (p_extract rfl rfl rfl) ?_
  refine DL.nil ?_
  refine TT.sq rfl ?_
  refine TT.ct rfl rfl rfl ?_
  refine TT.skip ?_
  refine TT.bk rfl ?_
  refine TT.sq rfl ?_
  refine TT.rg [0,1] [kp,kp] rfl rfl ?_
  refine DL.pu 26 (.int .i32 116) rfl (p_extract rfl rfl rfl) ?_
  refine DL.pu 6 (.int .i32 116) rfl (p_assign rfl rfl) ?_
  refine DL.nil ?_
  refine TT.rg [0,1,2,3] [kp,kp,kq,kx] rfl rfl ?_
  refine DL.mv 27 (.map (some b5)) rfl rfl rfl ?_
  refine DL.mv 28 (.int .i32 116) rfl rfl rfl ?_
  refine DL.qu 29 (.func (.func 137) #[] #[ptr b1 0,ptr b4 0]) rfl (f_lookupV (v:=.func (.func 137) #[] #[ptr b1 0,ptr b4 0]) rfl (f_lookup (a:=116) (j:=2) ty_u162 ty_u21 ty_z1 rfl rfl rfl rfl)) ?_
  refine DL.turnM (M:=M3) (E:=[(some b4,.cells ((Cmd.ce (Cmd.mk a0.num a0.kind a0.handle 0 0 0 z0 z0) nS)) 33 (0,0))]) (R:=[(some b16,.stringIter ⟨#[104,116,97,100]⟩ 2),(some b5,mobj .i32 [(104,.func (.func 135) #[] #[ptr b1 0,ptr b4 0]),(111,.func (.func 136) #[] #[ptr b1 0,ptr b4 0]),(116,.func (.func 137) #[] #[ptr b1 0,ptr b4 0]),(97,.func (.func 138) #[] #[ptr b1 0,ptr b4 0]),(107,.func (.func 139) #[] #[ptr b1 0,ptr b4 0]),(100,.func (.func 140) #[] #[ptr b1 0,ptr b4 0])]),(some b2,.cells ((Cmd.ce zC nS)) 33 (0,0))]) (fun b o e => hE3.mi b o e) [0,1,2,3] rfl rfl (fb137 hm_3) (args:=#[]) (caps:=#[ptr b1 0,ptr b4 0]) rfl (i:=3) rfl (Wn.none rfl) rfl rfl rfl rfl rfl rfl (args_val (vs:=[]) rfl) (fun w => enter137 _ w) ?_
  intro _
  refine DL.nil ?_
  refine TT.inBlock ?_
  refine TT.inLoop ?_
  refine TT.sq rfl ?_
  refine TT.rg [0,1] [kx,kp] rfl rfl ?_
  refine DL.chr (j:=1) (c:=97) (wd:=1) rfl rfl rfl rfl rfl rfl (by decide) (by kernel_rfl) rfl rfl ?_
  refine DL.pu 25 (.bool true) rfl (p_extract rfl rfl rfl) ?_
  refine DL.nil ?_
  refine TT.sq rfl ?_
  refine TT.ct rfl rfl rfl ?_
  refine TT.skip ?_
  refine TT.bk rfl ?_
  refine TT.sq rfl ?_
  refine TT.rg [0,1] [kp,kp] rfl rfl ?_
  refine DL.pu 26 (.int .i32 97) rfl (p_extract rfl rfl rfl) ?_
  refine DL.pu 6 (.int .i32 97) rfl (p_assign rfl rfl) ?_
  refine DL.nil ?_
  refine TT.rg [0,1,2,3] [kp,kp,kq,kx] rfl rfl ?_
  refine DL.mv 27 (.map (some b5)) rfl rfl rfl ?_
  refine DL.mv 28 (.int .i32 97) rfl rfl rfl ?_
  refine DL.qu 29 (.func (.func 138) #[] #[ptr b1 0,ptr b4 0]) rfl (f_lookupV (v:=.func (.func 138) #[] #[ptr b1 0,ptr b4 0]) rfl (f_lookup (a:=97) (j:=2) ty_u162 ty_u21 ty_z1 rfl rfl rfl rfl)) ?_
  refine DL.turnM (M:=M3) (E:=[(some b4,.cells ((Cmd.ce (Cmd.mk a0.num a0.kind a0.handle 0 a0.typ 0 z0 z0) nS)) 33 (0,0))]) (R:=[(some b16,.stringIter ⟨#[104,116,97,100]⟩ 3),(some b5,mobj .i32 [(104,.func (.func 135) #[] #[ptr b1 0,ptr b4 0]),(111,.func (.func 136) #[] #[ptr b1 0,ptr b4 0]),(116,.func (.func 137) #[] #[ptr b1 0,ptr b4 0]),(97,.func (.func 138) #[] #[ptr b1 0,ptr b4 0]),(107,.func (.func 139) #[] #[ptr b1 0,ptr b4 0]),(100,.func (.func 140) #[] #[ptr b1 0,ptr b4 0])]),(some b2,.cells ((Cmd.ce zC nS)) 33 (0,0))]) (fun b o e => hE3.mi b o e) [0,1,2,3] rfl rfl (fb138 hm_3) (args:=#[]) (caps:=#[ptr b1 0,ptr b4 0]) rfl (i:=3) rfl (Wn.none rfl) rfl rfl rfl rfl rfl rfl (args_val (vs:=[]) rfl) (fun w => enter138 _ w) ?_
  intro _
  refine DL.nil ?_
  refine TT.inBlock ?_
  refine TT.inLoop ?_
  refine TT.sq rfl ?_
  refine TT.rg [0,1] [kx,kp] rfl rfl ?_
  refine DL.chr (j:=1) (c:=100) (wd:=1) rfl rfl rfl rfl rfl rfl (by decide) (by kernel_rfl) rfl rfl ?_
  refine DL.pu 25 (.bool true) rfl (p_extract rfl rfl rfl) ?_
  refine DL.nil ?_
  refine TT.sq rfl ?_
  refine TT.ct rfl rfl rfl ?_
  refine TT.skip ?_
  refine TT.bk rfl ?_
  refine TT.sq rfl ?_
  refine TT.rg [0,1] [kp,kp] rfl rfl ?_
  refine DL.pu 26 (.int .i32 100) rfl (p_extract rfl rfl rfl) ?_
  refine DL.pu 6 (.int .i32 100) rfl (p_assign rfl rfl) ?_
  refine DL.nil ?_
  refine TT.rg [0,1,2,3] [kp,kp,kq,kx] rfl rfl ?_
  refine DL.mv 27 (.map (some b5)) rfl rfl rfl ?_
  refine DL.mv 28 (.int .i32 100) rfl rfl rfl ?_
  refine DL.qu 29 (.func (.func 140) #[] #[ptr b1 0,ptr b4 0]) rfl (f_lookupV (v:=.func (.func 140) #[] #[ptr b1 0,ptr b4 0]) rfl (f_lookup (a:=100) (j:=2) ty_u162 ty_u21 ty_z1 rfl rfl rfl rfl)) ?_
  refine DL.turnM (M:=M3) (E:=[(some b4,.cells ((Cmd.ce (Cmd.mk a0.num a0.kind a0.handle 0 a0.typ a0.attr z0 z0) nS)) 33 (0,0))]) (R:=[(some b16,.stringIter ⟨#[104,116,97,100]⟩ 4),(some b5,mobj .i32 [(104,.func (.func 135) #[] #[ptr b1 0,ptr b4 0]),(111,.func (.func 136) #[] #[ptr b1 0,ptr b4 0]),(116,.func (.func 137) #[] #[ptr b1 0,ptr b4 0]),(97,.func (.func 138) #[] #[ptr b1 0,ptr b4 0]),(107,.func (.func 139) #[] #[ptr b1 0,ptr b4 0]),(100,.func (.func 140) #[] #[ptr b1 0,ptr b4 0])]),(some b2,.cells ((Cmd.ce zC nS)) 33 (0,0))]) (fun b o e => hE3.mi b o e) [0,1,2,3] rfl rfl (fb140 (IntRow.mono hr_a0_38 hx3) hm_3) (args:=#[]) (caps:=#[ptr b1 0,ptr b4 0]) rfl (i:=3) rfl (Wn.none rfl) rfl rfl rfl rfl rfl rfl (args_val (vs:=[]) rfl) (fun w => enter140 _ w) ?_
  intro _
  refine DL.nil ?_
  refine TT.inBlock ?_
  refine TT.inLoop ?_
  refine TT.sq rfl ?_
  refine TT.rg [0,1] [kx,kp] rfl rfl ?_
  refine DL.chrE (j:=1) rfl rfl rfl rfl rfl rfl (by decide) rfl rfl ?_
  refine DL.pu 25 (.bool false) rfl (p_extract rfl rfl rfl) ?_
  refine DL.nil ?_
  refine TT.sq rfl ?_
  refine TT.cf rfl rfl rfl ?_
  refine TT.exit rfl ?_
  refine TT.sq rfl ?_
  refine TT.rg [0,1] [kq,kS] rfl rfl ?_
  refine DL.qu 31 (.agg (Cmd.ce (Cmd.mk a0.num a0.kind a0.handle 0 a0.typ a0.attr z0 a0.data) a0_38)) rfl (f_loadA (j:=0) ty_a33 ty_s33 rfl rfl rfl rfl) ?_
  refine DL.put (H':=[(some b4,.cells ((Cmd.ce (Cmd.mk a0.num a0.kind a0.handle 0 a0.typ a0.attr z0 a0.data) a0_38)) 33 (0,0)),(some b16,.stringIter ⟨#[104,116,97,100]⟩ 4),(some b5,mobj .i32 [(104,.func (.func 135) #[] #[ptr b1 0,ptr b4 0]),(111,.func (.func 136) #[] #[ptr b1 0,ptr b4 0]),(116,.func (.func 137) #[] #[ptr b1 0,ptr b4 0]),(97,.func (.func 138) #[] #[ptr b1 0,ptr b4 0]),(107,.func (.func 139) #[] #[ptr b1 0,ptr b4 0]),(100,.func (.func 140) #[] #[ptr b1 0,ptr b4 0])]),(some b2,.cells ((Cmd.ce (Cmd.mk a0.num a0.kind a0.handle 0 a0.typ a0.attr z0 a0.data) a0_38)) 33 (0,0))]) (i:=1) rfl (Wn.none rfl) rfl rfl (f_storeA (j:=3) ty_s33 rfl rfl rfl (cmd_one (sl_one (RowV.sl (IntRow.mono hr_a0_38 hx3)))) rfl rfl rfl) (keep_none rfl) ?_
  refine DL.nil ?_
  obtain rfl:=Option.some.inj h8
  exact retF (rs:=[.cell 2 33]) (vs:=[.agg (Cmd.ce (Cmd.mk a0.num a0.kind a0.handle 0 a0.typ a0.attr z0 a0.data) a0_38)]) a0_38 hE3 Tryz.func115 rfl rfl rfl (res_cons (ResV.cell (j:=3) ty_a33 ty_s33 rfl rfl rfl) res_nil) (IntRow.mono hr_a0_38 hx3)
 replace h8:=(if_neg (by simpa using hs9_6)).symm.trans h8
 by_cases hs9_7 : t6 = [104,97]
 ·
  subst hs9_7
  replace h8:=(if_pos (by decide)).symm.trans h8
  refine DL.keep (X:=Nat) (u:=fun b => ptr b 0) (H':=fun b => (some b,.stringIter ⟨#[104,97]⟩ 0) :: [(some b5,mobj .i32 [(104,.func (.func 135) #[] #[ptr b1 0,ptr b4 0]),(111,.func (.func 136) #[] #[ptr b1 0,ptr b4 0]),(116,.func (.func 137) #[] #[ptr b1 0,ptr b4 0]),(97,.func (.func 138) #[] #[ptr b1 0,ptr b4 0]),(107,.func (.func 139) #[] #[ptr b1 0,ptr b4 0]),(100,.func (.func 140) #[] #[ptr b1 0,ptr b4 0])]),(some b4,.cells ((Cmd.ce (Cmd.mk a0.num a0.kind 0 0 0 0 z0 z0) nS)) 33 (0,0)),(some b2,.cells ((Cmd.ce zC nS)) 33 (0,0))]) (fun _ p hp => List.mem_cons_of_mem _ hp) (i:=3) rfl (Wn.none rfl) rfl rfl rfl (f_rangeText (s:=⟨#[104,97]⟩) (by kernel_rfl : Tryz.prog.underlying 9 = some .string) rfl rfl) ?_
  intro b17
  refine DL.nil ?_
  refine TT.bk rfl ?_
  refine TT.lp rfl ?_
  refine TT.sq rfl ?_
  refine TT.rg [0,1] [kx,kp] rfl rfl ?_
  refine DL.chr (j:=0) (c:=104) (wd:=1) rfl rfl rfl rfl rfl rfl (by decide) (by kernel_rfl) rfl rfl ?_
  refine DL.pu 25 (.bool true) rfl (p_extract rfl rfl rfl) ?_
  refine DL.nil ?_
  refine TT.sq rfl ?_
  refine TT.ct rfl rfl rfl ?_
  refine TT.skip ?_
  refine TT.bk rfl ?_
  refine TT.sq rfl ?_
  refine TT.rg [0,1] [kp,kp] rfl rfl ?_
  refine DL.pu 26 (.int .i32 104) rfl (p_extract rfl rfl rfl) ?_
  refine DL.pu 6 (.int .i32 104) rfl (p_assign rfl rfl) ?_
  refine DL.nil ?_
  refine TT.rg [0,1,2,3] [kp,kp,kq,kx] rfl rfl ?_
  refine DL.mv 27 (.map (some b5)) rfl rfl rfl ?_
  refine DL.mv 28 (.int .i32 104) rfl rfl rfl ?_
  refine DL.qu 29 (.func (.func 135) #[] #[ptr b1 0,ptr b4 0]) rfl (f_lookupV (v:=.func (.func 135) #[] #[ptr b1 0,ptr b4 0]) rfl (f_lookup (a:=104) (j:=1) ty_u162 ty_u21 ty_z1 rfl rfl rfl rfl)) ?_
  refine DL.turnM (M:=M3) (E:=[(some b4,.cells ((Cmd.ce (Cmd.mk a0.num a0.kind 0 0 0 0 z0 z0) nS)) 33 (0,0))]) (R:=[(some b17,.stringIter ⟨#[104,97]⟩ 1),(some b5,mobj .i32 [(104,.func (.func 135) #[] #[ptr b1 0,ptr b4 0]),(111,.func (.func 136) #[] #[ptr b1 0,ptr b4 0]),(116,.func (.func 137) #[] #[ptr b1 0,ptr b4 0]),(97,.func (.func 138) #[] #[ptr b1 0,ptr b4 0]),(107,.func (.func 139) #[] #[ptr b1 0,ptr b4 0]),(100,.func (.func 140) #[] #[ptr b1 0,ptr b4 0])]),(some b2,.cells ((Cmd.ce zC nS)) 33 (0,0))]) (fun b o e => hE3.mi b o e) [2,0,1,3] rfl rfl (fb135 hm_3) (args:=#[]) (caps:=#[ptr b1 0,ptr b4 0]) rfl (i:=3) rfl (Wn.none rfl) rfl rfl rfl rfl rfl rfl (args_val (vs:=[]) rfl) (fun w => enter135 _ w) ?_
  intro _
  refine DL.nil ?_
  refine TT.inBlock ?_
  refine TT.inLoop ?_
  refine TT.sq rfl ?_
  refine TT.rg [0,1] [kx,kp] rfl rfl ?_
  refine DL.chr (j:=1) (c:=97) (wd:=1) rfl rfl rfl rfl rfl rfl (by decide) (by kernel_rfl) rfl rfl ?_
  refine DL.pu 25 (.bool true) rfl (p_extract rfl rfl rfl) ?_
  refine DL.nil ?_
  refine TT.sq rfl ?_
  refine TT.ct rfl rfl rfl ?_
  refine TT.skip ?_
  refine TT.bk rfl ?_
  refine TT.sq rfl ?_
  refine TT.rg [0,1] [kp,kp] rfl rfl ?_
  refine DL.pu 26 (.int .i32 97) rfl (p_extract rfl rfl rfl) ?_
  refine DL.pu 6 (.int .i32 97) rfl (p_assign rfl rfl) ?_
  refine DL.nil ?_
  refine TT.rg [0,1,2,3] [kp,kp,kq,kx] rfl rfl ?_
  refine DL.mv 27 (.map (some b5)) rfl rfl rfl ?_
  refine DL.mv 28 (.int .i32 97) rfl rfl rfl ?_
  refine DL.qu 29 (.func (.func 138) #[] #[ptr b1 0,ptr b4 0]) rfl (f_lookupV (v:=.func (.func 138) #[] #[ptr b1 0,ptr b4 0]) rfl (f_lookup (a:=97) (j:=2) ty_u162 ty_u21 ty_z1 rfl rfl rfl rfl)) ?_
  refine DL.turnM (M:=M3) (E:=[(some b4,.cells ((Cmd.ce (Cmd.mk a0.num a0.kind a0.handle 0 0 0 z0 z0) nS)) 33 (0,0))]) (R:=[(some b17,.stringIter ⟨#[104,97]⟩ 2),(some b5,mobj .i32 [(104,.func (.func 135) #[] #[ptr b1 0,ptr b4 0]),(111,.func (.func 136) #[] #[ptr b1 0,ptr b4 0]),(116,.func (.func 137) #[] #[ptr b1 0,ptr b4 0]),(97,.func (.func 138) #[] #[ptr b1 0,ptr b4 0]),(107,.func (.func 139) #[] #[ptr b1 0,ptr b4 0]),(100,.func (.func 140) #[] #[ptr b1 0,ptr b4 0])]),(some b2,.cells ((Cmd.ce zC nS)) 33 (0,0))]) (fun b o e => hE3.mi b o e) [0,1,2,3] rfl rfl (fb138 hm_3) (args:=#[]) (caps:=#[ptr b1 0,ptr b4 0]) rfl (i:=3) rfl (Wn.none rfl) rfl rfl rfl rfl rfl rfl (args_val (vs:=[]) rfl) (fun w => enter138 _ w) ?_
  intro _
  refine DL.nil ?_
  refine TT.inBlock ?_
  refine TT.inLoop ?_
  refine TT.sq rfl ?_
  refine TT.rg [0,1] [kx,kp] rfl rfl ?_
  refine DL.chrE (j:=1) rfl rfl rfl rfl rfl rfl (by decide) rfl rfl ?_
  refine DL.pu 25 (.bool false) rfl (p_extract rfl rfl rfl) ?_
  refine DL.nil ?_
  refine TT.sq rfl ?_
  refine TT.cf rfl rfl rfl ?_
  refine TT.exit rfl ?_
  refine TT.sq rfl ?_
  refine TT.rg [0,1] [kq,kS] rfl rfl ?_
  refine DL.qu 31 (.agg (Cmd.ce (Cmd.mk a0.num a0.kind a0.handle 0 0 a0.attr z0 z0) nS)) rfl (f_loadA (j:=0) ty_a33 ty_s33 rfl rfl rfl rfl) ?_
  refine DL.put (H':=[(some b4,.cells ((Cmd.ce (Cmd.mk a0.num a0.kind a0.handle 0 0 a0.attr z0 z0) nS)) 33 (0,0)),(some b17,.stringIter ⟨#[104,97]⟩ 2),(some b5,mobj .i32 [(104,.func (.func 135) #[] #[ptr b1 0,ptr b4 0]),(111,.func (.func 136) #[] #[ptr b1 0,ptr b4 0]),(116,.func (.func 137) #[] #[ptr b1 0,ptr b4 0]),(97,.func (.func 138) #[] #[ptr b1 0,ptr b4 0]),(107,.func (.func 139) #[] #[ptr b1 0,ptr b4 0]),(100,.func (.func 140) #[] #[ptr b1 0,ptr b4 0])]),(some b2,.cells ((Cmd.ce (Cmd.mk a0.num a0.kind a0.handle 0 0 a0.attr z0 z0) nS)) 33 (0,0))]) (i:=1) rfl (Wn.none rfl) rfl rfl (f_storeA (j:=3) ty_s33 rfl rfl rfl (cmd_one (sl_one (RowV.sl (IntRow.nil .u8 M3)))) rfl rfl rfl) (keep_none rfl) ?_
  refine DL.nil ?_
  obtain rfl:=Option.some.inj h8
  exact retF (rs:=[.cell 2 33]) (vs:=[.agg (Cmd.ce (Cmd.mk a0.num a0.kind a0.handle 0 0 a0.attr z0 z0) nS)]) nS hE3 Tryz.func115 rfl rfl rfl (res_cons (ResV.cell (j:=3) ty_a33 ty_s33 rfl rfl rfl) res_nil) (IntRow.nil .u8 M3)
 replace h8:=(if_neg (by simpa using hs9_7)).symm.trans h8
 by_cases hs9_8 : t6 = zU
 ·
  subst hs9_8
  replace h8:=(if_pos (by decide)).symm.trans h8
  refine DL.keep (X:=Nat) (u:=fun b => ptr b 0) (H':=fun b => (some b,.stringIter ⟨#[]⟩ 0) :: [(some b5,mobj .i32 [(104,.func (.func 135) #[] #[ptr b1 0,ptr b4 0]),(111,.func (.func 136) #[] #[ptr b1 0,ptr b4 0]),(116,.func (.func 137) #[] #[ptr b1 0,ptr b4 0]),(97,.func (.func 138) #[] #[ptr b1 0,ptr b4 0]),(107,.func (.func 139) #[] #[ptr b1 0,ptr b4 0]),(100,.func (.func 140) #[] #[ptr b1 0,ptr b4 0])]),(some b4,.cells ((Cmd.ce (Cmd.mk a0.num a0.kind 0 0 0 0 z0 z0) nS)) 33 (0,0)),(some b2,.cells ((Cmd.ce zC nS)) 33 (0,0))]) (fun _ p hp => List.mem_cons_of_mem _ hp) (i:=3) rfl (Wn.none rfl) rfl rfl rfl (f_rangeText (s:=⟨#[]⟩) (by kernel_rfl : Tryz.prog.underlying 9 = some .string) rfl rfl) ?_
  intro b18
  refine DL.nil ?_
  refine TT.bk rfl ?_
  refine TT.lp rfl ?_
  refine TT.sq rfl ?_
  refine TT.rg [0,1] [kx,kp] rfl rfl ?_
  refine DL.chrE (j:=0) rfl rfl rfl rfl rfl rfl (by decide) rfl rfl ?_
  refine DL.pu 25 (.bool false) rfl (p_extract rfl rfl rfl) ?_
  refine DL.nil ?_
  refine TT.sq rfl ?_
  refine TT.cf rfl rfl rfl ?_
  refine TT.exit rfl ?_
  refine TT.sq rfl ?_
  refine TT.rg [0,1] [kq,kS] rfl rfl ?_
  refine DL.qu 31 (.agg (Cmd.ce (Cmd.mk a0.num a0.kind 0 0 0 0 z0 z0) nS)) rfl (f_loadA (j:=2) ty_a33 ty_s33 rfl rfl rfl rfl) ?_
  refine DL.put (H':=[(some b18,.stringIter ⟨#[]⟩ 0),(some b5,mobj .i32 [(104,.func (.func 135) #[] #[ptr b1 0,ptr b4 0]),(111,.func (.func 136) #[] #[ptr b1 0,ptr b4 0]),(116,.func (.func 137) #[] #[ptr b1 0,ptr b4 0]),(97,.func (.func 138) #[] #[ptr b1 0,ptr b4 0]),(107,.func (.func 139) #[] #[ptr b1 0,ptr b4 0]),(100,.func (.func 140) #[] #[ptr b1 0,ptr b4 0])]),(some b4,.cells ((Cmd.ce (Cmd.mk a0.num a0.kind 0 0 0 0 z0 z0) nS)) 33 (0,0)),(some b2,.cells ((Cmd.ce (Cmd.mk a0.num a0.kind 0 0 0 0 z0 z0) nS)) 33 (0,0))]) (i:=1) rfl (Wn.none rfl) rfl rfl (f_storeA (j:=3) ty_s33 rfl rfl rfl (cmd_one (sl_one (RowV.sl (IntRow.nil .u8 M3)))) rfl rfl rfl) (keep_none rfl) ?_
  refine DL.nil ?_
  obtain rfl:=Option.some.inj h8
  exact retF (rs:=[.cell 2 33]) (vs:=[.agg (Cmd.ce (Cmd.mk a0.num a0.kind 0 0 0 0 z0 z0) nS)]) nS hE3 Tryz.func115 rfl rfl rfl (res_cons (ResV.cell (j:=3) ty_a33 ty_s33 rfl rfl rfl) res_nil) (IntRow.nil .u8 M3)
 replace h8:=(if_neg (by simpa using hs9_8)).symm.trans h8
 cases h8

end Go.Proofs.YthldgjbmjgjogaaGreatDoor
