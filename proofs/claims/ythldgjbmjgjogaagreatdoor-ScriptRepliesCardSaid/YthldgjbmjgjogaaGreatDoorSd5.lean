import Derived.Test.YthldgjbmjgjogaaGreatDoorSd4
namespace Go.Proofs.YthldgjbmjgjogaaGreatDoor
open Go Go.HW Go.RowKit
set_option linter.unusedVariables false
set_option linter.unusedSimpArgs false

/-! ### escutcheon/script.bare: function 60 -/
noncomputable def B60 : Code:=bodyOf Tryz.f60
def script_bare.f (a0 : Act) (a1 : List UInt8) : Option (Act × Bool):=if (a1 == [99,102]) = true then ((script_within.f a0.client 0 255).bind fun t8 => some (Act.mk a0.kind a0.client 0 0 0 0 (a0.first) z0 zC z0 z0,(true && t8))) else (if (a1 == [99,109]) = true then ((script_within.f a0.client 0 255).bind fun t13 => (script_mayCmd.f a0.cmd).bind fun t16 => some (Act.mk a0.kind a0.client 0 0 0 0 z0 z0 a0.cmd z0 z0,((true && t13) && t16))) else (if (a1 == [99]) = true then ((script_within.f a0.client 0 255).bind fun t21 => some (Act.mk a0.kind a0.client 0 0 0 0 z0 z0 zC z0 z0,(true && t21))) else (if (a1 == [110,100]) = true then ((script_within.f a0.n 0 1000000).bind fun t26 => some (Act.mk a0.kind 0 a0.n 0 0 0 z0 (a0.draw) zC z0 z0,(true && t26))) else (if (a1 == [99,110]) = true then ((script_within.f a0.client 0 255).bind fun t31 => (script_within.f a0.n 0 1000000).bind fun t34 => some (Act.mk a0.kind a0.client a0.n 0 0 0 z0 z0 zC z0 z0,((true && t31) && t34))) else (if (a1 == [121,100]) = true then (some (Act.mk a0.kind 0 0 0 0 0 z0 (a0.draw) zC a0.bytes z0,(true && decide ((a0.bytes.length : Int) ≤ 9000)))) else (if (a1 == [110,97,98,100]) = true then ((script_within.f a0.n 0 1000000).bind fun t41 => (script_within.f a0.at_ 0 1000000).bind fun t44 => some (Act.mk a0.kind 0 a0.n a0.at_ a0.byt 0 z0 (a0.draw) zC z0 z0,((true && t41) && t44))) else (if (a1 == [116]) = true then (some (Act.mk a0.kind 0 0 0 0 a0.tick z0 z0 zC z0 z0,(true && decide (a0.tick ≤ 4294967296)))) else (if (a1 == [110]) = true then ((script_within.f a0.n 0 1000000).bind fun t51 => some (Act.mk a0.kind 0 a0.n 0 0 0 z0 z0 zC z0 z0,(true && t51))) else (if (a1 == [112]) = true then ((if (decide ((a0.picks.length : Int) ≤ 64)) = true then ((cont97.f a0.picks).bind fun t63 => some (!t63)) else (some false)).bind fun q57 => some (Act.mk a0.kind 0 0 0 0 0 z0 z0 zC z0 a0.picks,(true && q57))) else (if (a1 == zU) = true then (some (Act.mk a0.kind 0 0 0 0 0 z0 z0 zC z0 z0,true)) else (if (a1 == [110,97,98]) = true then ((script_within.f a0.n 0 1000000).bind fun t71 => (script_within.f a0.at_ 0 1000000).bind fun t74 => some (Act.mk a0.kind 0 a0.n a0.at_ a0.byt 0 z0 z0 zC z0 z0,((true && t71) && t74))) else (none))))))))))))
set_option maxHeartbeats 1000000 in
set_option maxRecDepth 20000 in
theorem script_bare.ok {a0 : Act} {a1 : List UInt8} {a0_108 : Value} {a0_109 : Value} {a0_110 : Value} {r_0 : Act} {r_1 : Bool} (h : script_bare.f a0 a1 = some (r_0,r_1)) {M : Mem} (w : World) (hM : Ext M (heapOf w)) (hr_a0_108 : IntRow M .u8 a0_108 a0.cmd.data) (hr_a0_109 : IntRow M .u8 a0_109 a0.bytes) (hr_a0_110 : IntRow M .i64 a0_110 a0.picks) : Calls Tryz.prog 60 #[.agg (Act.ce a0 a0_108 a0_109 a0_110),str a1] w (PostF (G:=Value × Value × Value) (fun g => .tuple #[.agg (Act.ce r_0 (g.1) (g.2.1) (g.2.2)),.bool r_1]) (fun g M_ => (IntRow M_ .u8 (g.1) r_0.cmd.data) ∧ (IntRow M_ .u8 (g.2.1) r_0.bytes) ∧ (IntRow M_ .i64 (g.2.2) r_0.picks)) M w):=by
 unfold script_bare.f at h
 have hE:=Env.start hM
 refine calls_of_TT (N:=114) (S:=[(0,.agg (Act.ce a0 a0_108 a0_109 a0_110)),(1,str a1)]) (c:=B60) Tryz.func60 rfl rfl rfl (by simp) ?_
 show TT _ _ _ _ _ _ [.code (sub [] B60)] _ _
 refine TT.sq rfl ?_
 refine TT.rg [0,1,2] [kA,kA,kp] rfl rfl ?_
 refine DL.new (ob:=.cells ((Act.ce a0 a0_108 a0_109 a0_110)) 36) (mk:=fun b => ptr b 0) (i:=0) rfl (Wn.none rfl) rfl rfl rfl (f_box (v:=.agg (Act.ce a0 a0_108 a0_109 a0_110)) rfl rfl) ?_
 intro b1 hb1
 refine DL.new (ob:=.cells ((Act.ce (Act.mk 0 0 0 0 0 0 z0 z0 zC z0 z0) nS nS nS)) 36) (mk:=fun b => ptr b 0) (i:=1) rfl (Wn.none rfl) rfl rfl rfl (f_alloc ty_z36 rfl) ?_
 intro b2 hb2
 refine DL.pu 5 (.bool false) rfl (p_assign rfl rfl) ?_
 refine DL.nil ?_
 refine TT.freezeAt (j:=1) hE rfl ?_
 intro M3 I3 hE3 hx3 hxI3 hb3
 have hm_3 : M3 b1 = some (.cells ((Act.ce a0 a0_108 a0_109 a0_110)) 36 (0,0)):=hb3 _ rfl
 show TT _ _ _ _ _ _ _ _ [(some b2,.cells ((Act.ce (Act.mk 0 0 0 0 0 0 z0 z0 zC z0 z0) nS nS nS)) 36 (0,0))]
 refine TT.sq rfl ?_
 refine TT.rg [0,1,2,3,4] [kp,kq,kp,kA,kS] rfl rfl ?_
 refine DL.pu 11 (ptr b1 0) rfl (p_fieldAddr ty_f36_0 rfl rfl) ?_
 refine DL.qu 12 (.int .i64 a0.kind) rfl (FImm.quiet (i_loadBoxO (I:=M3) hm_3 rfl ty_a23 rfl rfl) (fun w hc => hE3.imm hc)) ?_
 refine DL.pu 13 (.agg (Act.ce (Act.mk a0.kind 0 0 0 0 0 z0 z0 zC z0 z0) nS nS nS)) rfl (p_build (vs:=[(0,.int .i64 a0.kind)]) (fun w => by kernel_rfl) rfl rfl) ?_
 refine DL.new (ob:=.cells ((Act.ce (Act.mk 0 0 0 0 0 0 z0 z0 zC z0 z0) nS nS nS)) 36) (mk:=fun b => ptr b 0) (i:=3) rfl (Wn.none rfl) rfl rfl rfl (f_alloc ty_z36 rfl) ?_
 intro b4 hb4
 refine DL.put (H':=[(some b4,.cells ((Act.ce (Act.mk a0.kind 0 0 0 0 0 z0 z0 zC z0 z0) nS nS nS)) 36 (0,0)),(some b2,.cells ((Act.ce (Act.mk 0 0 0 0 0 0 z0 z0 zC z0 z0) nS nS nS)) 36 (0,0))]) (i:=4) rfl (Wn.none rfl) rfl rfl (f_storeA (j:=0) ty_s36 rfl rfl rfl (act_one (sl_one (RowV.sl (IntRow.nil .u8 M3))) (sl_one (RowV.sl (IntRow.nil .u8 M3))) (sl_one (RowV.sl (IntRow.nil .i64 M3)))) rfl rfl rfl) (keep_none rfl) ?_
 refine DL.nil ?_
 refine TT.sq rfl ?_
 refine TT.rg [0,1] [kA,kS] rfl rfl ?_
 refine DL.new (ob:=.cells (#[.bool false]) 4) (mk:=fun b => ptr b 0) (i:=0) rfl (Wn.none rfl) rfl rfl rfl (f_alloc ty_z4 rfl) ?_
 intro b5 hb5
 refine DL.put (H':=[(some b5,.cells (#[.bool true]) 4 (0,0)),(some b4,.cells ((Act.ce (Act.mk a0.kind 0 0 0 0 0 z0 z0 zC z0 z0) nS nS nS)) 36 (0,0)),(some b2,.cells ((Act.ce (Act.mk 0 0 0 0 0 0 z0 z0 zC z0 z0) nS nS nS)) 36 (0,0))]) (i:=1) rfl (Wn.none rfl) rfl rfl (f_store (c:=#[.bool false]) (v:=.bool true) (off:=0) (j:=0) ty_s4 rfl rfl (of_decide_eq_true rfl) trivial rfl rfl rfl) (keep_none rfl) ?_
 refine DL.nil ?_
 refine TT.sq rfl ?_
 refine TT.rg [0,1] [kp,kp] rfl rfl ?_
 refine DL.pu 14 (.func (.func 94) #[] #[ptr b5 0]) rfl (p_makeFunc rfl (args_val (vs:=[ptr b5 0]) rfl)) ?_
 refine DL.pu 8 (.func (.func 94) #[] #[ptr b5 0]) rfl (p_assign rfl rfl) ?_
 refine DL.nil ?_
 refine TT.sq rfl ?_
 refine TT.sq rfl ?_
 refine TT.rg [0,1] [kp,kk] rfl rfl ?_
 refine DL.mv 15 (str a1) rfl rfl rfl ?_
 by_cases hs6_0 : a1 = [99,102]
 ·
  subst hs6_0
  replace h:=(if_pos (by decide)).symm.trans h
  refine DL.keep (X:=Nat) (u:=fun b => ptr b 0) (H':=fun b => (some b,.stringIter ⟨#[99,102]⟩ 0) :: [(some b5,.cells (#[.bool true]) 4 (0,0)),(some b4,.cells ((Act.ce (Act.mk a0.kind 0 0 0 0 0 z0 z0 zC z0 z0) nS nS nS)) 36 (0,0)),(some b2,.cells ((Act.ce (Act.mk 0 0 0 0 0 0 z0 z0 zC z0 z0) nS nS nS)) 36 (0,0))]) (fun _ p hp => List.mem_cons_of_mem _ hp) (i:=1) rfl (Wn.none rfl) rfl rfl rfl (f_rangeText (s:=⟨#[99,102]⟩) (by kernel_rfl : Tryz.prog.underlying 9 = some .string) rfl rfl) ?_
  intro b7
  refine DL.nil ?_
  refine TT.bk rfl ?_
  refine TT.lp rfl ?_
  refine TT.sq rfl ?_
  refine TT.rg [0,1] [kx,kp] rfl rfl ?_
  refine DL.chr (j:=0) (c:=99) (wd:=1) rfl rfl rfl rfl rfl rfl (by decide) (by kernel_rfl) rfl rfl ?_
  refine DL.pu 18 (.bool true) rfl (p_extract rfl rfl rfl) ?_
  refine DL.nil ?_
  refine TT.sq rfl ?_
  refine TT.ct rfl rfl rfl ?_
  refine TT.skip ?_
  refine TT.bk rfl ?_
  refine TT.sq rfl ?_
  refine TT.rg [0,1] [kp,kp] rfl rfl ?_
  refine DL.pu 19 (.int .i32 99) rfl (p_extract rfl rfl rfl) ?_
  refine DL.pu 10 (.int .i32 99) rfl (p_assign rfl rfl) ?_
  refine DL.nil ?_
  refine TT.sq rfl ?_
  refine TT.rg [0] [kp] rfl rfl ?_
  refine DL.mv 20 (.int .i32 99) rfl rfl rfl ?_
  refine DL.nil ?_
  refine TT.bk rfl ?_
  refine TT.sq rfl ?_
  refine TT.rg [0,1] [kp,kp] rfl rfl ?_
  refine DL.pu 37 (.bool true) rfl (show FPure _ _ _ (.bool ((99 : Int) == (99 : Int))) from p_eql rfl rfl rfl) ?_
  refine DL.pu 36 (.bool true) rfl (p_assign rfl rfl) ?_
  refine DL.nil ?_
  refine TT.ct rfl rfl rfl ?_
  refine TT.sq rfl ?_
  refine TT.rg [0,1,2,3] [kp,kq,kp,kS] rfl rfl ?_
  refine DL.pu 38 (ptr b1 1) rfl (p_fieldAddr ty_f36_1 rfl rfl) ?_
  refine DL.qu 39 (.int .i64 a0.client) rfl (FImm.quiet (i_loadBoxO (I:=M3) hm_3 rfl ty_a3 rfl rfl) (fun w hc => hE3.imm hc)) ?_
  refine DL.pu 40 (ptr b4 1) rfl (p_fieldAddr ty_f36_1 rfl rfl) ?_
  refine DL.put (H':=[(some b7,.stringIter ⟨#[99,102]⟩ 1),(some b5,.cells (#[.bool true]) 4 (0,0)),(some b4,.cells ((Act.ce (Act.mk a0.kind a0.client 0 0 0 0 z0 z0 zC z0 z0) nS nS nS)) 36 (0,0)),(some b2,.cells ((Act.ce (Act.mk 0 0 0 0 0 0 z0 z0 zC z0 z0) nS nS nS)) 36 (0,0))]) (i:=3) rfl (Wn.none rfl) rfl rfl (f_store (c:=(Act.ce (Act.mk a0.kind 0 0 0 0 0 z0 z0 zC z0 z0) nS nS nS)) (v:=.int .i64 a0.client) (off:=1) (j:=2) ty_s3 rfl rfl (of_decide_eq_true rfl) trivial rfl rfl rfl) (keep_none rfl) ?_
  refine DL.nil ?_
  refine TT.rg [0,1,2,3,4] [kp,kp,kq,kq,kx] rfl rfl ?_
  refine DL.mv 41 (.func (.func 94) #[] #[ptr b5 0]) rfl rfl rfl ?_
  refine DL.pu 42 (ptr b1 1) rfl (p_fieldAddr ty_f36_1 rfl rfl) ?_
  refine DL.qu 43 (.int .i64 a0.client) rfl (FImm.quiet (i_loadBoxO (I:=M3) hm_3 rfl ty_a3 rfl rfl) (fun w hc => hE3.imm hc)) ?_
  obtain ⟨t8,h9,h10⟩:=bind_some h
  refine DL.qu 44 (.bool t8) rfl (f_callR rfl rfl (args_val (vs:=[.int .i64 a0.client,.int .i64 0,.int .i64 255]) rfl) (fun w => enter95 _ w) (fun w hc => script_within.val h9 (M:=M3) w (hE3.ext hc) )) ?_
  refine DL.turnM (M:=M3) (E:=[(some b5,.cells (#[.bool true]) 4 (0,0))]) (R:=[(some b7,.stringIter ⟨#[99,102]⟩ 1),(some b4,.cells ((Act.ce (Act.mk a0.kind a0.client 0 0 0 0 z0 z0 zC z0 z0) nS nS nS)) 36 (0,0)),(some b2,.cells ((Act.ce (Act.mk 0 0 0 0 0 0 z0 z0 zC z0 z0) nS nS nS)) 36 (0,0))]) (fun b o e => hE3.mi b o e) [1,0,2,3] rfl rfl (check94 (M:=M3) (b:=b5) (p:=t8) (q:=true)) (args:=#[.bool t8]) (caps:=#[ptr b5 0]) rfl (i:=4) rfl (Wn.none rfl) rfl rfl rfl rfl rfl rfl (args_val (vs:=[.bool t8]) rfl) (fun w => enter94 _ w) ?_
  intro _
  refine DL.nil ?_
  refine TT.inBlock ?_
  refine TT.inBlock ?_
  refine TT.inLoop ?_
  refine TT.sq rfl ?_
  refine TT.rg [0,1] [kx,kp] rfl rfl ?_
  refine DL.chr (j:=1) (c:=102) (wd:=1) rfl rfl rfl rfl rfl rfl (by decide) (by kernel_rfl) rfl rfl ?_
  refine DL.pu 18 (.bool true) rfl (p_extract rfl rfl rfl) ?_
  refine DL.nil ?_
  refine TT.sq rfl ?_
  refine TT.ct rfl rfl rfl ?_
  refine TT.skip ?_
  refine TT.bk rfl ?_
  refine TT.sq rfl ?_
  refine TT.rg [0,1] [kp,kp] rfl rfl ?_
  refine DL.pu 19 (.int .i32 102) rfl (p_extract rfl rfl rfl) ?_
  refine DL.pu 10 (.int .i32 102) rfl (p_assign rfl rfl) ?_
  refine DL.nil ?_
  refine TT.sq rfl ?_
  refine TT.rg [0] [kp] rfl rfl ?_
  refine DL.mv 20 (.int .i32 102) rfl rfl rfl ?_
  refine DL.nil ?_
  refine TT.bk rfl ?_
  refine TT.sq rfl ?_
  refine TT.rg [0,1] [kp,kp] rfl rfl ?_
  refine DL.pu 37 (.bool false) rfl (show FPure _ _ _ (.bool ((102 : Int) == (99 : Int))) from p_eql rfl rfl rfl) ?_
  refine DL.pu 36 (.bool false) rfl (p_assign rfl rfl) ?_
  refine DL.nil ?_
  refine TT.cf rfl rfl rfl ?_
  refine TT.sq rfl ?_
  refine TT.rg [0,1] [kp,kp] rfl rfl ?_
  refine DL.pu 47 (.bool false) rfl (show FPure _ _ _ (.bool ((102 : Int) == (110 : Int))) from p_eql rfl rfl rfl) ?_
  refine DL.pu 46 (.bool false) rfl (p_assign rfl rfl) ?_
  refine DL.nil ?_
  refine TT.cf rfl rfl rfl ?_
  refine TT.sq rfl ?_
  refine TT.rg [0,1] [kp,kp] rfl rfl ?_
  refine DL.pu 57 (.bool false) rfl (show FPure _ _ _ (.bool ((102 : Int) == (97 : Int))) from p_eql rfl rfl rfl) ?_
  refine DL.pu 56 (.bool false) rfl (p_assign rfl rfl) ?_
  refine DL.nil ?_
  refine TT.cf rfl rfl rfl ?_
  refine TT.sq rfl ?_
  refine TT.rg [0,1] [kp,kp] rfl rfl ?_
  refine DL.pu 67 (.bool false) rfl (show FPure _ _ _ (.bool ((102 : Int) == (98 : Int))) from p_eql rfl rfl rfl) ?_
  refine DL.pu 66 (.bool false) rfl (p_assign rfl rfl) ?_
  refine DL.nil ?_
  refine TT.cf rfl rfl rfl ?_
  refine TT.sq rfl ?_
  refine TT.rg [0,1] [kp,kp] rfl rfl ?_
  refine DL.pu 72 (.bool false) rfl (show FPure _ _ _ (.bool ((102 : Int) == (116 : Int))) from p_eql rfl rfl rfl) ?_
  refine DL.pu 71 (.bool false) rfl (p_assign rfl rfl) ?_
  refine DL.nil ?_
  refine TT.cf rfl rfl rfl ?_
  refine TT.sq rfl ?_
  refine TT.rg [0,1] [kp,kp] rfl rfl ?_
  refine DL.pu 82 (.bool true) rfl (show FPure _ _ _ (.bool ((102 : Int) == (102 : Int))) from p_eql rfl rfl rfl) ?_
  refine DL.pu 81 (.bool true) rfl (p_assign rfl rfl) ?_
  refine DL.nil ?_
  refine TT.ct rfl rfl rfl ?_
  refine TT.rg [0,1,2,3] [kp,kq,kp,kS] rfl rfl ?_
  refine DL.pu 83 (ptr b1 6) rfl (p_fieldAddr ty_f36_6 rfl rfl) ?_
  refine DL.qu 84 (.agg (enc .u8 (pad32 a0.first))) rfl (FImm.quiet (i_loadBoxSub (I:=M3) hm_3 (vs:=encl .u8 (pad32 a0.first)) rfl rfl ty_a26 ty_s26 rfl rfl) (fun w hc => hE3.imm hc)) ?_
  refine DL.pu 85 (ptr b4 6) rfl (p_fieldAddr ty_f36_6 rfl rfl) ?_
  refine DL.put (H':=[(some b5,.cells (#[.bool (true && t8)]) 4 (0,0)),(some b7,.stringIter ⟨#[99,102]⟩ 2),(some b4,.cells ((Act.ce (Act.mk a0.kind a0.client 0 0 0 0 (a0.first) z0 zC z0 z0) nS nS nS)) 36 (0,0)),(some b2,.cells ((Act.ce (Act.mk 0 0 0 0 0 0 z0 z0 zC z0 z0) nS nS nS)) 36 (0,0))]) (i:=3) rfl (Wn.none rfl) rfl rfl (by rw [← (show splice (Act.ce (Act.mk a0.kind a0.client 0 0 0 0 z0 z0 zC z0 z0) nS nS nS) 6 (Value.cells (.agg (enc .u8 (pad32 a0.first)))).toList = (Act.ce (Act.mk a0.kind a0.client 0 0 0 0 (a0.first) z0 zC z0 z0) nS nS nS) from by kernel_rfl)]; exact put_of_store (c:=(Act.ce (Act.mk a0.kind a0.client 0 0 0 0 z0 z0 zC z0 z0) nS nS nS)) (v:=.agg (enc .u8 (pad32 a0.first))) (n:=32) (off:=6) (j:=2) ty_s26 rfl rfl (of_decide_eq_true rfl) (one_int .u8 (pad32 a0.first)) rfl rfl rfl) (keep_none rfl) ?_
  refine DL.nil ?_
  refine TT.inBlock ?_
  refine TT.inBlock ?_
  refine TT.inLoop ?_
  refine TT.sq rfl ?_
  refine TT.rg [0,1] [kx,kp] rfl rfl ?_
  refine DL.chrE (j:=1) rfl rfl rfl rfl rfl rfl (by decide) rfl rfl ?_
  refine DL.pu 18 (.bool false) rfl (p_extract rfl rfl rfl) ?_
  refine DL.nil ?_
  refine TT.sq rfl ?_
  refine TT.cf rfl rfl rfl ?_
  refine TT.exit rfl ?_
  refine TT.sq rfl ?_
  refine TT.rgD [0,1,2,3] [0,0,1,7] [(.look,some 2),(.look,some 0),(.store,some 3),kp] rfl mixed (by kernel_rfl) ?_
  intro w11 hl11 hj11 hz11
  refine DL.look (v:=.agg (Act.ce (Act.mk a0.kind a0.client 0 0 0 0 (a0.first) z0 zC z0 z0) nS nS nS)) (x:=2) (b:=b4) (i:=0) rfl (Wn.none rfl) rfl rfl rfl rfl rfl (List.mem_of_getElem? (i:=2) rfl) (b_loadA ty_a36 ty_s36 rfl rfl rfl) ?_
  refine DL.look (v:=.bool (true && t8)) (x:=0) (b:=b5) (i:=1) rfl (Wn.none rfl) rfl rfl rfl rfl rfl (List.mem_of_getElem? (i:=0) rfl) (b_load ty_a4 rfl rfl rfl) ?_
  refine DL.put (H':=[(some b5,.cells (#[.bool (true && t8)]) 4 (0,0)),(some b7,.stringIter ⟨#[99,102]⟩ 2),(some b4,.cells ((Act.ce (Act.mk a0.kind a0.client 0 0 0 0 (a0.first) z0 zC z0 z0) nS nS nS)) 36 (0,0)),(some b2,.cells ((Act.ce (Act.mk a0.kind a0.client 0 0 0 0 (a0.first) z0 zC z0 z0) nS nS nS)) 36 (0,0))]) (i:=2) rfl (Wn.none rfl) rfl rfl (f_storeA (j:=3) ty_s36 rfl rfl rfl (act_one (sl_one (RowV.sl (IntRow.nil .u8 M3))) (sl_one (RowV.sl (IntRow.nil .u8 M3))) (sl_one (RowV.sl (IntRow.nil .i64 M3)))) rfl rfl rfl) (keep_set (j:=3) hj11 rfl rfl rfl) ?_
  refine DL.pu 5 (.bool (true && t8)) rfl (p_assign rfl rfl) ?_
  refine DL.nil' hl11 ?_
  simp only [Option.some.injEq,Prod.mk.injEq] at h10
  obtain ⟨rfl,rfl⟩:=h10
  exact retF (rs:=[.cell 4 36,.tmp 5]) (vs:=[.agg (Act.ce (Act.mk a0.kind a0.client 0 0 0 0 (a0.first) z0 zC z0 z0) nS nS nS),.bool (true && t8)]) (nS,nS,nS) hE3 Tryz.func60 rfl rfl rfl (res_cons (ResV.cell (j:=3) ty_a36 ty_s36 rfl rfl rfl) (res_cons (ResV.tmp rfl) res_nil)) ⟨(IntRow.nil .u8 M3),(IntRow.nil .u8 M3),(IntRow.nil .i64 M3)⟩
 replace h:=(if_neg (by simpa using hs6_0)).symm.trans h
 by_cases hs6_1 : a1 = [99,109]
 ·
  subst hs6_1
  replace h:=(if_pos (by decide)).symm.trans h
  refine DL.keep (X:=Nat) (u:=fun b => ptr b 0) (H':=fun b => (some b,.stringIter ⟨#[99,109]⟩ 0) :: [(some b5,.cells (#[.bool true]) 4 (0,0)),(some b4,.cells ((Act.ce (Act.mk a0.kind 0 0 0 0 0 z0 z0 zC z0 z0) nS nS nS)) 36 (0,0)),(some b2,.cells ((Act.ce (Act.mk 0 0 0 0 0 0 z0 z0 zC z0 z0) nS nS nS)) 36 (0,0))]) (fun _ p hp => List.mem_cons_of_mem _ hp) (i:=1) rfl (Wn.none rfl) rfl rfl rfl (f_rangeText (s:=⟨#[99,109]⟩) (by kernel_rfl : Tryz.prog.underlying 9 = some .string) rfl rfl) ?_
  intro b12
  refine DL.nil ?_
  refine TT.bk rfl ?_
  refine TT.lp rfl ?_
  refine TT.sq rfl ?_
  refine TT.rg [0,1] [kx,kp] rfl rfl ?_
  refine DL.chr (j:=0) (c:=99) (wd:=1) rfl rfl rfl rfl rfl rfl (by decide) (by kernel_rfl) rfl rfl ?_
  refine DL.pu 18 (.bool true) rfl (p_extract rfl rfl rfl) ?_
  refine DL.nil ?_
  refine TT.sq rfl ?_
  refine TT.ct rfl rfl rfl ?_
  refine TT.skip ?_
  refine TT.bk rfl ?_
  refine TT.sq rfl ?_
  refine TT.rg [0,1] [kp,kp] rfl rfl ?_
  refine DL.pu 19 (.int .i32 99) rfl (p_extract rfl rfl rfl) ?_
  refine DL.pu 10 (.int .i32 99) rfl (p_assign rfl rfl) ?_
  refine DL.nil ?_
  refine TT.sq rfl ?_
  refine TT.rg [0] [kp] rfl rfl ?_
  refine DL.mv 20 (.int .i32 99) rfl rfl rfl ?_
  refine DL.nil ?_
  refine TT.bk rfl ?_
  refine TT.sq rfl ?_
  refine TT.rg [0,1] [kp,kp] rfl rfl ?_
  refine DL.pu 37 (.bool true) rfl (show FPure _ _ _ (.bool ((99 : Int) == (99 : Int))) from p_eql rfl rfl rfl) ?_
  refine DL.pu 36 (.bool true) rfl (p_assign rfl rfl) ?_
  refine DL.nil ?_
  refine TT.ct rfl rfl rfl ?_
  refine TT.sq rfl ?_
  refine TT.rg [0,1,2,3] [kp,kq,kp,kS] rfl rfl ?_
  refine DL.pu 38 (ptr b1 1) rfl (p_fieldAddr ty_f36_1 rfl rfl) ?_
  refine DL.qu 39 (.int .i64 a0.client) rfl (FImm.quiet (i_loadBoxO (I:=M3) hm_3 rfl ty_a3 rfl rfl) (fun w hc => hE3.imm hc)) ?_
  refine DL.pu 40 (ptr b4 1) rfl (p_fieldAddr ty_f36_1 rfl rfl) ?_
  refine DL.put (H':=[(some b12,.stringIter ⟨#[99,109]⟩ 1),(some b5,.cells (#[.bool true]) 4 (0,0)),(some b4,.cells ((Act.ce (Act.mk a0.kind a0.client 0 0 0 0 z0 z0 zC z0 z0) nS nS nS)) 36 (0,0)),(some b2,.cells ((Act.ce (Act.mk 0 0 0 0 0 0 z0 z0 zC z0 z0) nS nS nS)) 36 (0,0))]) (i:=3) rfl (Wn.none rfl) rfl rfl (f_store (c:=(Act.ce (Act.mk a0.kind 0 0 0 0 0 z0 z0 zC z0 z0) nS nS nS)) (v:=.int .i64 a0.client) (off:=1) (j:=2) ty_s3 rfl rfl (of_decide_eq_true rfl) trivial rfl rfl rfl) (keep_none rfl) ?_
  refine DL.nil ?_
  refine TT.rg [0,1,2,3,4] [kp,kp,kq,kq,kx] rfl rfl ?_
  refine DL.mv 41 (.func (.func 94) #[] #[ptr b5 0]) rfl rfl rfl ?_
  refine DL.pu 42 (ptr b1 1) rfl (p_fieldAddr ty_f36_1 rfl rfl) ?_
  refine DL.qu 43 (.int .i64 a0.client) rfl (FImm.quiet (i_loadBoxO (I:=M3) hm_3 rfl ty_a3 rfl rfl) (fun w hc => hE3.imm hc)) ?_
  obtain ⟨t13,h14,h15⟩:=bind_some h
  refine DL.qu 44 (.bool t13) rfl (f_callR rfl rfl (args_val (vs:=[.int .i64 a0.client,.int .i64 0,.int .i64 255]) rfl) (fun w => enter95 _ w) (fun w hc => script_within.val h14 (M:=M3) w (hE3.ext hc) )) ?_
  refine DL.turnM (M:=M3) (E:=[(some b5,.cells (#[.bool true]) 4 (0,0))]) (R:=[(some b12,.stringIter ⟨#[99,109]⟩ 1),(some b4,.cells ((Act.ce (Act.mk a0.kind a0.client 0 0 0 0 z0 z0 zC z0 z0) nS nS nS)) 36 (0,0)),(some b2,.cells ((Act.ce (Act.mk 0 0 0 0 0 0 z0 z0 zC z0 z0) nS nS nS)) 36 (0,0))]) (fun b o e => hE3.mi b o e) [1,0,2,3] rfl rfl (check94 (M:=M3) (b:=b5) (p:=t13) (q:=true)) (args:=#[.bool t13]) (caps:=#[ptr b5 0]) rfl (i:=4) rfl (Wn.none rfl) rfl rfl rfl rfl rfl rfl (args_val (vs:=[.bool t13]) rfl) (fun w => enter94 _ w) ?_
  intro _
  refine DL.nil ?_
  refine TT.inBlock ?_
  refine TT.inBlock ?_
  refine TT.inLoop ?_
  refine TT.sq rfl ?_
  refine TT.rg [0,1] [kx,kp] rfl rfl ?_
  refine DL.chr (j:=1) (c:=109) (wd:=1) rfl rfl rfl rfl rfl rfl (by decide) (by kernel_rfl) rfl rfl ?_
  refine DL.pu 18 (.bool true) rfl (p_extract rfl rfl rfl) ?_
  refine DL.nil ?_
  refine TT.sq rfl ?_
  refine TT.ct rfl rfl rfl ?_
  refine TT.skip ?_
  refine TT.bk rfl ?_
  refine TT.sq rfl ?_
  refine TT.rg [0,1] [kp,kp] rfl rfl ?_
  refine DL.pu 19 (.int .i32 109) rfl (p_extract rfl rfl rfl) ?_
  refine DL.pu 10 (.int .i32 109) rfl (p_assign rfl rfl) ?_
  refine DL.nil ?_
  refine TT.sq rfl ?_
  refine TT.rg [0] [kp] rfl rfl ?_
  refine DL.mv 20 (.int .i32 109) rfl rfl rfl ?_
  refine DL.nil ?_
  refine TT.bk rfl ?_
  refine TT.sq rfl ?_
  refine TT.rg [0,1] [kp,kp] rfl rfl ?_
  refine DL.pu 37 (.bool false) rfl (show FPure _ _ _ (.bool ((109 : Int) == (99 : Int))) from p_eql rfl rfl rfl) ?_
  refine DL.pu 36 (.bool false) rfl (p_assign rfl rfl) ?_
  refine DL.nil ?_
  refine TT.cf rfl rfl rfl ?_
  refine TT.sq rfl ?_
  refine TT.rg [0,1] [kp,kp] rfl rfl ?_
  refine DL.pu 47 (.bool false) rfl (show FPure _ _ _ (.bool ((109 : Int) == (110 : Int))) from p_eql rfl rfl rfl) ?_
  refine DL.pu 46 (.bool false) rfl (p_assign rfl rfl) ?_
  refine DL.nil ?_
  refine TT.cf rfl rfl rfl ?_
  refine TT.sq rfl ?_
  refine TT.rg [0,1] [kp,kp] rfl rfl ?_
  refine DL.pu 57 (.bool false) rfl (show FPure _ _ _ (.bool ((109 : Int) == (97 : Int))) from p_eql rfl rfl rfl) ?_
  refine DL.pu 56 (.bool false) rfl (p_assign rfl rfl) ?_
  refine DL.nil ?_
  refine TT.cf rfl rfl rfl ?_
  refine TT.sq rfl ?_
  refine TT.rg [0,1] [kp,kp] rfl rfl ?_
  refine DL.pu 67 (.bool false) rfl (show FPure _ _ _ (.bool ((109 : Int) == (98 : Int))) from p_eql rfl rfl rfl) ?_
  refine DL.pu 66 (.bool false) rfl (p_assign rfl rfl) ?_
  refine DL.nil ?_
  refine TT.cf rfl rfl rfl ?_
  refine TT.sq rfl ?_
  refine TT.rg [0,1] [kp,kp] rfl rfl ?_
  refine DL.pu 72 (.bool false) rfl (show FPure _ _ _ (.bool ((109 : Int) == (116 : Int))) from p_eql rfl rfl rfl) ?_
  refine DL.pu 71 (.bool false) rfl (p_assign rfl rfl) ?_
  refine DL.nil ?_
  refine TT.cf rfl rfl rfl ?_
  refine TT.sq rfl ?_
  refine TT.rg [0,1] [kp,kp] rfl rfl ?_
  refine DL.pu 82 (.bool false) rfl (show FPure _ _ _ (.bool ((109 : Int) == (102 : Int))) from p_eql rfl rfl rfl) ?_
  refine DL.pu 81 (.bool false) rfl (p_assign rfl rfl) ?_
  refine DL.nil ?_
  refine TT.cf rfl rfl rfl ?_
  refine TT.sq rfl ?_
  refine TT.rg [0,1] [kp,kp] rfl rfl ?_
  refine DL.pu 87 (.bool false) rfl (show FPure _ _ _ (.bool ((109 : Int) == (100 : Int))) from p_eql rfl rfl rfl) ?_
  refine DL.pu 86 (.bool false) rfl (p_assign rfl rfl) ?_
  refine DL.nil ?_
  refine TT.cf rfl rfl rfl ?_
  refine TT.sq rfl ?_
  refine TT.rg [0,1] [kp,kp] rfl rfl ?_
  refine DL.pu 92 (.bool true) rfl (show FPure _ _ _ (.bool ((109 : Int) == (109 : Int))) from p_eql rfl rfl rfl) ?_
  refine DL.pu 91 (.bool true) rfl (p_assign rfl rfl) ?_
  refine DL.nil ?_
  refine TT.ct rfl rfl rfl ?_
  refine TT.sq rfl ?_
  refine TT.rg [0,1,2,3] [kp,kq,kp,kS] rfl rfl ?_
  refine DL.pu 93 (ptr b1 70) rfl (p_fieldAddr ty_f36_8 rfl rfl) ?_
  refine DL.qu 94 (.agg (Cmd.ce a0.cmd a0_108)) rfl (FImm.quiet (i_loadBoxSub (I:=M3) hm_3 (vs:=(Cmd.ce a0.cmd a0_108).toList) rfl rfl ty_a33 ty_s33 rfl rfl) (fun w hc => hE3.imm hc)) ?_
  refine DL.pu 95 (ptr b4 70) rfl (p_fieldAddr ty_f36_8 rfl rfl) ?_
  refine DL.put (H':=[(some b5,.cells (#[.bool (true && t13)]) 4 (0,0)),(some b12,.stringIter ⟨#[99,109]⟩ 2),(some b4,.cells ((Act.ce (Act.mk a0.kind a0.client 0 0 0 0 z0 z0 a0.cmd z0 z0) a0_108 nS nS)) 36 (0,0)),(some b2,.cells ((Act.ce (Act.mk 0 0 0 0 0 0 z0 z0 zC z0 z0) nS nS nS)) 36 (0,0))]) (i:=3) rfl (Wn.none rfl) rfl rfl (by rw [← (show splice (Act.ce (Act.mk a0.kind a0.client 0 0 0 0 z0 z0 zC z0 z0) nS nS nS) 70 (Value.cells (.agg (Cmd.ce a0.cmd a0_108))).toList = (Act.ce (Act.mk a0.kind a0.client 0 0 0 0 z0 z0 a0.cmd z0 z0) a0_108 nS nS) from by kernel_rfl)]; exact put_of_store (c:=(Act.ce (Act.mk a0.kind a0.client 0 0 0 0 z0 z0 zC z0 z0) nS nS nS)) (v:=.agg (Cmd.ce a0.cmd a0_108)) (n:=39) (off:=70) (j:=2) ty_s33 rfl rfl (of_decide_eq_true rfl) (cmd_one (sl_one (RowV.sl (IntRow.mono hr_a0_108 hx3)))) rfl rfl rfl) (keep_none rfl) ?_
  refine DL.nil ?_
  refine TT.rg [0,1,2,3,4] [kp,kp,kq,kq,kx] rfl rfl ?_
  refine DL.mv 96 (.func (.func 94) #[] #[ptr b5 0]) rfl rfl rfl ?_
  refine DL.pu 97 (ptr b1 70) rfl (p_fieldAddr ty_f36_8 rfl rfl) ?_
  refine DL.qu 98 (.agg (Cmd.ce a0.cmd a0_108)) rfl (FImm.quiet (i_loadBoxSub (I:=M3) hm_3 (vs:=(Cmd.ce a0.cmd a0_108).toList) rfl rfl ty_a33 ty_s33 rfl rfl) (fun w hc => hE3.imm hc)) ?_
  obtain ⟨t16,h17,h18⟩:=bind_some h15
  refine DL.qu 99 (.bool t16) rfl (f_callR rfl rfl (args_val (vs:=[.agg (Cmd.ce a0.cmd a0_108)]) rfl) (fun w => enter54 _ w) (fun w hc => script_mayCmd.val h17 (M:=M3) w (hE3.ext hc) (IntRow.mono hr_a0_108 hx3))) ?_
  refine DL.turnM (M:=M3) (E:=[(some b5,.cells (#[.bool (true && t13)]) 4 (0,0))]) (R:=[(some b12,.stringIter ⟨#[99,109]⟩ 2),(some b4,.cells ((Act.ce (Act.mk a0.kind a0.client 0 0 0 0 z0 z0 a0.cmd z0 z0) a0_108 nS nS)) 36 (0,0)),(some b2,.cells ((Act.ce (Act.mk 0 0 0 0 0 0 z0 z0 zC z0 z0) nS nS nS)) 36 (0,0))]) (fun b o e => hE3.mi b o e) [0,1,2,3] rfl rfl (check94 (M:=M3) (b:=b5) (p:=t16) (q:=(true && t13))) (args:=#[.bool t16]) (caps:=#[ptr b5 0]) rfl (i:=4) rfl (Wn.none rfl) rfl rfl rfl rfl rfl rfl (args_val (vs:=[.bool t16]) rfl) (fun w => enter94 _ w) ?_
  intro _
  refine DL.nil ?_
  refine TT.inBlock ?_
  refine TT.inBlock ?_
  refine TT.inLoop ?_
  refine TT.sq rfl ?_
  refine TT.rg [0,1] [kx,kp] rfl rfl ?_
  refine DL.chrE (j:=1) rfl rfl rfl rfl rfl rfl (by decide) rfl rfl ?_
  refine DL.pu 18 (.bool false) rfl (p_extract rfl rfl rfl) ?_
  refine DL.nil ?_
  refine TT.sq rfl ?_
  refine TT.cf rfl rfl rfl ?_
  refine TT.exit rfl ?_
  refine TT.sq rfl ?_
  refine TT.rgD [0,1,2,3] [0,0,1,7] [(.look,some 2),(.look,some 0),(.store,some 3),kp] rfl mixed (by kernel_rfl) ?_
  intro w19 hl19 hj19 hz19
  refine DL.look (v:=.agg (Act.ce (Act.mk a0.kind a0.client 0 0 0 0 z0 z0 a0.cmd z0 z0) a0_108 nS nS)) (x:=2) (b:=b4) (i:=0) rfl (Wn.none rfl) rfl rfl rfl rfl rfl (List.mem_of_getElem? (i:=2) rfl) (b_loadA ty_a36 ty_s36 rfl rfl rfl) ?_
  refine DL.look (v:=.bool ((true && t13) && t16)) (x:=0) (b:=b5) (i:=1) rfl (Wn.none rfl) rfl rfl rfl rfl rfl (List.mem_of_getElem? (i:=0) rfl) (b_load ty_a4 rfl rfl rfl) ?_
  refine DL.put (H':=[(some b5,.cells (#[.bool ((true && t13) && t16)]) 4 (0,0)),(some b12,.stringIter ⟨#[99,109]⟩ 2),(some b4,.cells ((Act.ce (Act.mk a0.kind a0.client 0 0 0 0 z0 z0 a0.cmd z0 z0) a0_108 nS nS)) 36 (0,0)),(some b2,.cells ((Act.ce (Act.mk a0.kind a0.client 0 0 0 0 z0 z0 a0.cmd z0 z0) a0_108 nS nS)) 36 (0,0))]) (i:=2) rfl (Wn.none rfl) rfl rfl (f_storeA (j:=3) ty_s36 rfl rfl rfl (act_one (sl_one (RowV.sl (IntRow.mono hr_a0_108 hx3))) (sl_one (RowV.sl (IntRow.nil .u8 M3))) (sl_one (RowV.sl (IntRow.nil .i64 M3)))) rfl rfl rfl) (keep_set (j:=3) hj19 rfl rfl rfl) ?_
  refine DL.pu 5 (.bool ((true && t13) && t16)) rfl (p_assign rfl rfl) ?_
  refine DL.nil' hl19 ?_
  simp only [Option.some.injEq,Prod.mk.injEq] at h18
  obtain ⟨rfl,rfl⟩:=h18
  exact retF (rs:=[.cell 4 36,.tmp 5]) (vs:=[.agg (Act.ce (Act.mk a0.kind a0.client 0 0 0 0 z0 z0 a0.cmd z0 z0) a0_108 nS nS),.bool ((true && t13) && t16)]) (a0_108,nS,nS) hE3 Tryz.func60 rfl rfl rfl (res_cons (ResV.cell (j:=3) ty_a36 ty_s36 rfl rfl rfl) (res_cons (ResV.tmp rfl) res_nil)) ⟨(IntRow.mono hr_a0_108 hx3),(IntRow.nil .u8 M3),(IntRow.nil .i64 M3)⟩
 replace h:=(if_neg (by simpa using hs6_1)).symm.trans h
 by_cases hs6_2 : a1 = [99]
 ·
  subst hs6_2
  replace h:=(if_pos (by decide)).symm.trans h
  refine DL.keep (X:=Nat) (u:=fun b => ptr b 0) (H':=fun b => (some b,.stringIter ⟨#[99]⟩ 0) :: [(some b5,.cells (#[.bool true]) 4 (0,0)),(some b4,.cells ((Act.ce (Act.mk a0.kind 0 0 0 0 0 z0 z0 zC z0 z0) nS nS nS)) 36 (0,0)),(some b2,.cells ((Act.ce (Act.mk 0 0 0 0 0 0 z0 z0 zC z0 z0) nS nS nS)) 36 (0,0))]) (fun _ p hp => List.mem_cons_of_mem _ hp) (i:=1) rfl (Wn.none rfl) rfl rfl rfl (f_rangeText (s:=⟨#[99]⟩) (by kernel_rfl : Tryz.prog.underlying 9 = some .string) rfl rfl) ?_
  intro b20
  refine DL.nil ?_
  refine TT.bk rfl ?_
  refine TT.lp rfl ?_
  refine TT.sq rfl ?_
  refine TT.rg [0,1] [kx,kp] rfl rfl ?_
  refine DL.chr (j:=0) (c:=99) (wd:=1) rfl rfl rfl rfl rfl rfl (by decide) (by kernel_rfl) rfl rfl ?_
  refine DL.pu 18 (.bool true) rfl (p_extract rfl rfl rfl) ?_
  refine DL.nil ?_
  refine TT.sq rfl ?_
  refine TT.ct rfl rfl rfl ?_
  refine TT.skip ?_
  refine TT.bk rfl ?_
  refine TT.sq rfl ?_
  refine TT.rg [0,1] [kp,kp] rfl rfl ?_
  refine DL.pu 19 (.int .i32 99) rfl (p_extract rfl rfl rfl) ?_
  refine DL.pu 10 (.int .i32 99) rfl (p_assign rfl rfl) ?_
  refine DL.nil ?_
  refine TT.sq rfl ?_
  refine TT.rg [0] [kp] rfl rfl ?_
  refine DL.mv 20 (.int .i32 99) rfl rfl rfl ?_
  refine DL.nil ?_
  refine TT.bk rfl ?_
  refine TT.sq rfl ?_
  refine TT.rg [0,1] [kp,kp] rfl rfl ?_
  refine DL.pu 37 (.bool true) rfl (show FPure _ _ _ (.bool ((99 : Int) == (99 : Int))) from p_eql rfl rfl rfl) ?_
  refine DL.pu 36 (.bool true) rfl (p_assign rfl rfl) ?_
  refine DL.nil ?_
  refine TT.ct rfl rfl rfl ?_
  refine TT.sq rfl ?_
  refine TT.rg [0,1,2,3] [kp,kq,kp,kS] rfl rfl ?_
  refine DL.pu 38 (ptr b1 1) rfl (p_fieldAddr ty_f36_1 rfl rfl) ?_
  refine DL.qu 39 (.int .i64 a0.client) rfl (FImm.quiet (i_loadBoxO (I:=M3) hm_3 rfl ty_a3 rfl rfl) (fun w hc => hE3.imm hc)) ?_
  refine DL.pu 40 (ptr b4 1) rfl (p_fieldAddr ty_f36_1 rfl rfl) ?_
  refine DL.put (H':=[(some b20,.stringIter ⟨#[99]⟩ 1),(some b5,.cells (#[.bool true]) 4 (0,0)),(some b4,.cells ((Act.ce (Act.mk a0.kind a0.client 0 0 0 0 z0 z0 zC z0 z0) nS nS nS)) 36 (0,0)),(some b2,.cells ((Act.ce (Act.mk 0 0 0 0 0 0 z0 z0 zC z0 z0) nS nS nS)) 36 (0,0))]) (i:=3) rfl (Wn.none rfl) rfl rfl (f_store (c:=(Act.ce (Act.mk a0.kind 0 0 0 0 0 z0 z0 zC z0 z0) nS nS nS)) (v:=.int .i64 a0.client) (off:=1) (j:=2) ty_s3 rfl rfl (of_decide_eq_true rfl) trivial rfl rfl rfl) (keep_none rfl) ?_
  refine DL.nil ?_
  refine TT.rg [0,1,2,3,4] [kp,kp,kq,kq,kx] rfl rfl ?_
  refine DL.mv 41 (.func (.func 94) #[] #[ptr b5 0]) rfl rfl rfl ?_
  refine DL.pu 42 (ptr b1 1) rfl (p_fieldAddr ty_f36_1 rfl rfl) ?_
  refine DL.qu 43 (.int .i64 a0.client) rfl (FImm.quiet (i_loadBoxO (I:=M3) hm_3 rfl ty_a3 rfl rfl) (fun w hc => hE3.imm hc)) ?_
  obtain ⟨t21,h22,h23⟩:=bind_some h
  refine DL.qu 44 (.bool t21) rfl (f_callR rfl rfl (args_val (vs:=[.int .i64 a0.client,.int .i64 0,.int .i64 255]) rfl) (fun w => enter95 _ w) (fun w hc => script_within.val h22 (M:=M3) w (hE3.ext hc) )) ?_
  refine DL.turnM (M:=M3) (E:=[(some b5,.cells (#[.bool true]) 4 (0,0))]) (R:=[(some b20,.stringIter ⟨#[99]⟩ 1),(some b4,.cells ((Act.ce (Act.mk a0.kind a0.client 0 0 0 0 z0 z0 zC z0 z0) nS nS nS)) 36 (0,0)),(some b2,.cells ((Act.ce (Act.mk 0 0 0 0 0 0 z0 z0 zC z0 z0) nS nS nS)) 36 (0,0))]) (fun b o e => hE3.mi b o e) [1,0,2,3] rfl rfl (check94 (M:=M3) (b:=b5) (p:=t21) (q:=true)) (args:=#[.bool t21]) (caps:=#[ptr b5 0]) rfl (i:=4) rfl (Wn.none rfl) rfl rfl rfl rfl rfl rfl (args_val (vs:=[.bool t21]) rfl) (fun w => enter94 _ w) ?_
  intro _
  refine DL.nil ?_
  refine TT.inBlock ?_
  refine TT.inBlock ?_
  refine TT.inLoop ?_
  refine TT.sq rfl ?_
  refine TT.rg [0,1] [kx,kp] rfl rfl ?_
  refine DL.chrE (j:=1) rfl rfl rfl rfl rfl rfl (by decide) rfl rfl ?_
  refine DL.pu 18 (.bool false) rfl (p_extract rfl rfl rfl) ?_
  refine DL.nil ?_
  refine TT.sq rfl ?_
  refine TT.cf rfl rfl rfl ?_
  refine TT.exit rfl ?_
  refine TT.sq rfl ?_
  refine TT.rgD [0,1,2,3] [0,0,1,7] [(.look,some 2),(.look,some 0),(.store,some 3),kp] rfl mixed (by kernel_rfl) ?_
  intro w24 hl24 hj24 hz24
  refine DL.look (v:=.agg (Act.ce (Act.mk a0.kind a0.client 0 0 0 0 z0 z0 zC z0 z0) nS nS nS)) (x:=2) (b:=b4) (i:=0) rfl (Wn.none rfl) rfl rfl rfl rfl rfl (List.mem_of_getElem? (i:=2) rfl) (b_loadA ty_a36 ty_s36 rfl rfl rfl) ?_
  refine DL.look (v:=.bool (true && t21)) (x:=0) (b:=b5) (i:=1) rfl (Wn.none rfl) rfl rfl rfl rfl rfl (List.mem_of_getElem? (i:=0) rfl) (b_load ty_a4 rfl rfl rfl) ?_
  refine DL.put (H':=[(some b5,.cells (#[.bool (true && t21)]) 4 (0,0)),(some b20,.stringIter ⟨#[99]⟩ 1),(some b4,.cells ((Act.ce (Act.mk a0.kind a0.client 0 0 0 0 z0 z0 zC z0 z0) nS nS nS)) 36 (0,0)),(some b2,.cells ((Act.ce (Act.mk a0.kind a0.client 0 0 0 0 z0 z0 zC z0 z0) nS nS nS)) 36 (0,0))]) (i:=2) rfl (Wn.none rfl) rfl rfl (f_storeA (j:=3) ty_s36 rfl rfl rfl (act_one (sl_one (RowV.sl (IntRow.nil .u8 M3))) (sl_one (RowV.sl (IntRow.nil .u8 M3))) (sl_one (RowV.sl (IntRow.nil .i64 M3)))) rfl rfl rfl) (keep_set (j:=3) hj24 rfl rfl rfl) ?_
  refine DL.pu 5 (.bool (true && t21)) rfl (p_assign rfl rfl) ?_
  refine DL.nil' hl24 ?_
  simp only [Option.some.injEq,Prod.mk.injEq] at h23
  obtain ⟨rfl,rfl⟩:=h23
  exact retF (rs:=[.cell 4 36,.tmp 5]) (vs:=[.agg (Act.ce (Act.mk a0.kind a0.client 0 0 0 0 z0 z0 zC z0 z0) nS nS nS),.bool (true && t21)]) (nS,nS,nS) hE3 Tryz.func60 rfl rfl rfl (res_cons (ResV.cell (j:=3) ty_a36 ty_s36 rfl rfl rfl) (res_cons (ResV.tmp rfl) res_nil)) ⟨(IntRow.nil .u8 M3),(IntRow.nil .u8 M3),(IntRow.nil .i64 M3)⟩
 replace h:=(if_neg (by simpa using hs6_2)).symm.trans h
 by_cases hs6_3 : a1 = [110,100]
 ·
  subst hs6_3
  replace h:=(if_pos (by decide)).symm.trans h
  refine DL.keep (X:=Nat) (u:=fun b => ptr b 0) (H':=fun b => (some b,.stringIter ⟨#[110,100]⟩ 0) :: [(some b5,.cells (#[.bool true]) 4 (0,0)),(some b4,.cells ((Act.ce (Act.mk a0.kind 0 0 0 0 0 z0 z0 zC z0 z0) nS nS nS)) 36 (0,0)),(some b2,.cells ((Act.ce (Act.mk 0 0 0 0 0 0 z0 z0 zC z0 z0) nS nS nS)) 36 (0,0))]) (fun _ p hp => List.mem_cons_of_mem _ hp) (i:=1) rfl (Wn.none rfl) rfl rfl rfl (f_rangeText (s:=⟨#[110,100]⟩) (by kernel_rfl : Tryz.prog.underlying 9 = some .string) rfl rfl) ?_
  intro b25
  refine DL.nil ?_
  refine TT.bk rfl ?_
  refine TT.lp rfl ?_
  refine TT.sq rfl ?_
  refine TT.rg [0,1] [kx,kp] rfl rfl ?_
  refine DL.chr (j:=0) (c:=110) (wd:=1) rfl rfl rfl rfl rfl rfl (by decide) (by kernel_rfl) rfl rfl ?_
  refine DL.pu 18 (.bool true) rfl (p_extract rfl rfl rfl) ?_
  refine DL.nil ?_
  refine TT.sq rfl ?_
  refine TT.ct rfl rfl rfl ?_
  refine TT.skip ?_
  refine TT.bk rfl ?_
  refine TT.sq rfl ?_
  refine TT.rg [0,1] [kp,kp] rfl rfl ?_
  refine DL.pu 19 (.int .i32 110) rfl (p_extract rfl rfl rfl) ?_
  refine DL.pu 10 (.int .i32 110) rfl (p_assign rfl rfl) ?_
  refine DL.nil ?_
  refine TT.sq rfl ?_
  refine TT.rg [0] [kp] rfl rfl ?_
  refine DL.mv 20 (.int .i32 110) rfl rfl rfl ?_
  refine DL.nil ?_
  refine TT.bk rfl ?_
  refine TT.sq rfl ?_
  refine TT.rg [0,1] [kp,kp] rfl rfl ?_
  refine DL.pu 37 (.bool false) rfl (show FPure _ _ _ (.bool ((110 : Int) == (99 : Int))) from p_eql rfl rfl rfl) ?_
  refine DL.pu 36 (.bool false) rfl (p_assign rfl rfl) ?_
  refine DL.nil ?_
  refine TT.cf rfl rfl rfl ?_
  refine TT.sq rfl ?_
  refine TT.rg [0,1] [kp,kp] rfl rfl ?_
  refine DL.pu 47 (.bool true) rfl (show FPure _ _ _ (.bool ((110 : Int) == (110 : Int))) from p_eql rfl rfl rfl) ?_
  refine DL.pu 46 (.bool true) rfl (p_assign rfl rfl) ?_
  refine DL.nil ?_
  refine TT.ct rfl rfl rfl ?_
  refine TT.sq rfl ?_
  refine TT.rg [0,1,2,3] [kp,kq,kp,kS] rfl rfl ?_
  refine DL.pu 48 (ptr b1 2) rfl (p_fieldAddr ty_f36_2 rfl rfl) ?_
  refine DL.qu 49 (.int .i64 a0.n) rfl (FImm.quiet (i_loadBoxO (I:=M3) hm_3 rfl ty_a3 rfl rfl) (fun w hc => hE3.imm hc)) ?_
  refine DL.pu 50 (ptr b4 2) rfl (p_fieldAddr ty_f36_2 rfl rfl) ?_
  refine DL.put (H':=[(some b25,.stringIter ⟨#[110,100]⟩ 1),(some b5,.cells (#[.bool true]) 4 (0,0)),(some b4,.cells ((Act.ce (Act.mk a0.kind 0 a0.n 0 0 0 z0 z0 zC z0 z0) nS nS nS)) 36 (0,0)),(some b2,.cells ((Act.ce (Act.mk 0 0 0 0 0 0 z0 z0 zC z0 z0) nS nS nS)) 36 (0,0))]) (i:=3) rfl (Wn.none rfl) rfl rfl (f_store (c:=(Act.ce (Act.mk a0.kind 0 0 0 0 0 z0 z0 zC z0 z0) nS nS nS)) (v:=.int .i64 a0.n) (off:=2) (j:=2) ty_s3 rfl rfl (of_decide_eq_true rfl) trivial rfl rfl rfl) (keep_none rfl) ?_
  refine DL.nil ?_
  refine TT.rg [0,1,2,3,4] [kp,kp,kq,kq,kx] rfl rfl ?_
  refine DL.mv 51 (.func (.func 94) #[] #[ptr b5 0]) rfl rfl rfl ?_
  refine DL.pu 52 (ptr b1 2) rfl (p_fieldAddr ty_f36_2 rfl rfl) ?_
  refine DL.qu 53 (.int .i64 a0.n) rfl (FImm.quiet (i_loadBoxO (I:=M3) hm_3 rfl ty_a3 rfl rfl) (fun w hc => hE3.imm hc)) ?_
  obtain ⟨t26,h27,h28⟩:=bind_some h
  refine DL.qu 54 (.bool t26) rfl (f_callR rfl rfl (args_val (vs:=[.int .i64 a0.n,.int .i64 0,.int .i64 1000000]) rfl) (fun w => enter95 _ w) (fun w hc => script_within.val h27 (M:=M3) w (hE3.ext hc) )) ?_
  refine DL.turnM (M:=M3) (E:=[(some b5,.cells (#[.bool true]) 4 (0,0))]) (R:=[(some b25,.stringIter ⟨#[110,100]⟩ 1),(some b4,.cells ((Act.ce (Act.mk a0.kind 0 a0.n 0 0 0 z0 z0 zC z0 z0) nS nS nS)) 36 (0,0)),(some b2,.cells ((Act.ce (Act.mk 0 0 0 0 0 0 z0 z0 zC z0 z0) nS nS nS)) 36 (0,0))]) (fun b o e => hE3.mi b o e) [1,0,2,3] rfl rfl (check94 (M:=M3) (b:=b5) (p:=t26) (q:=true)) (args:=#[.bool t26]) (caps:=#[ptr b5 0]) rfl (i:=4) rfl (Wn.none rfl) rfl rfl rfl rfl rfl rfl (args_val (vs:=[.bool t26]) rfl) (fun w => enter94 _ w) ?_
  intro _
  refine DL.nil ?_
  refine TT.inBlock ?_
  refine TT.inBlock ?_
  refine TT.inLoop ?_
  refine TT.sq rfl ?_
  refine TT.rg [0,1] [kx,kp] rfl rfl ?_
  refine DL.chr (j:=1) (c:=100) (wd:=1) rfl rfl rfl rfl rfl rfl (by decide) (by kernel_rfl) rfl rfl ?_
  refine DL.pu 18 (.bool true) rfl (p_extract rfl rfl rfl) ?_
  refine DL.nil ?_
  refine TT.sq rfl ?_
  refine TT.ct rfl rfl rfl ?_
  refine TT.skip ?_
  refine TT.bk rfl ?_
  refine TT.sq rfl ?_
  refine TT.rg [0,1] [kp,kp] rfl rfl ?_
  refine DL.pu 19 (.int .i32 100) rfl (p_extract rfl rfl rfl) ?_
  refine DL.pu 10 (.int .i32 100) rfl (p_assign rfl rfl) ?_
  refine DL.nil ?_
  refine TT.sq rfl ?_
  refine TT.rg [0] [kp] rfl rfl ?_
  refine DL.mv 20 (.int .i32 100) rfl rfl rfl ?_
  refine DL.nil ?_
  refine TT.bk rfl ?_
  refine TT.sq rfl ?_
  refine TT.rg [0,1] [kp,kp] rfl rfl ?_
  refine DL.pu 37 (.bool false) rfl (show FPure _ _ _ (.bool ((100 : Int) == (99 : Int))) from p_eql rfl rfl rfl) ?_
  refine DL.pu 36 (.bool false) rfl (p_assign rfl rfl) ?_
  refine DL.nil ?_
  refine TT.cf rfl rfl rfl ?_
  refine TT.sq rfl ?_
  refine TT.rg [0,1] [kp,kp] rfl rfl ?_
  refine DL.pu 47 (.bool false) rfl (show FPure _ _ _ (.bool ((100 : Int) == (110 : Int))) from p_eql rfl rfl rfl) ?_
  refine DL.pu 46 (.bool false) rfl (p_assign rfl rfl) ?_
  refine DL.nil ?_
  refine TT.cf rfl rfl rfl ?_
  refine TT.sq rfl ?_
  refine TT.rg [0,1] [kp,kp] rfl rfl ?_
  refine DL.pu 57 (.bool false) rfl (show FPure _ _ _ (.bool ((100 : Int) == (97 : Int))) from p_eql rfl rfl rfl) ?_
  refine DL.pu 56 (.bool false) rfl (p_assign rfl rfl) ?_
  refine DL.nil ?_
  refine TT.cf rfl rfl rfl ?_
  refine TT.sq rfl ?_
  refine TT.rg [0,1] [kp,kp] rfl rfl ?_
  refine DL.pu 67 (.bool false) rfl (show FPure _ _ _ (.bool ((100 : Int) == (98 : Int))) from p_eql rfl rfl rfl) ?_
  refine DL.pu 66 (.bool false) rfl (p_assign rfl rfl) ?_
  refine DL.nil ?_
  refine TT.cf rfl rfl rfl ?_
  refine TT.sq rfl ?_
  refine TT.rg [0,1] [kp,kp] rfl rfl ?_
  refine DL.pu 72 (.bool false) rfl (show FPure _ _ _ (.bool ((100 : Int) == (116 : Int))) from p_eql rfl rfl rfl) ?_
  refine DL.pu 71 (.bool false) rfl (p_assign rfl rfl) ?_
  refine DL.nil ?_
  refine TT.cf rfl rfl rfl ?_
  refine TT.sq rfl ?_
  refine TT.rg [0,1] [kp,kp] rfl rfl ?_
  refine DL.pu 82 (.bool false) rfl (show FPure _ _ _ (.bool ((100 : Int) == (102 : Int))) from p_eql rfl rfl rfl) ?_
  refine DL.pu 81 (.bool false) rfl (p_assign rfl rfl) ?_
  refine DL.nil ?_
  refine TT.cf rfl rfl rfl ?_
  refine TT.sq rfl ?_
  refine TT.rg [0,1] [kp,kp] rfl rfl ?_
  refine DL.pu 87 (.bool true) rfl (show FPure _ _ _ (.bool ((100 : Int) == (100 : Int))) from p_eql rfl rfl rfl) ?_
  refine DL.pu 86 (.bool true) rfl (p_assign rfl rfl) ?_
  refine DL.nil ?_
  refine TT.ct rfl rfl rfl ?_
  refine TT.rg [0,1,2,3] [kp,kq,kp,kS] rfl rfl ?_
  refine DL.pu 88 (ptr b1 38) rfl (p_fieldAddr ty_f36_7 rfl rfl) ?_
  refine DL.qu 89 (.agg (enc .u8 (pad32 a0.draw))) rfl (FImm.quiet (i_loadBoxSub (I:=M3) hm_3 (vs:=encl .u8 (pad32 a0.draw)) rfl rfl ty_a26 ty_s26 rfl rfl) (fun w hc => hE3.imm hc)) ?_
  refine DL.pu 90 (ptr b4 38) rfl (p_fieldAddr ty_f36_7 rfl rfl) ?_
  refine DL.put (H':=[(some b5,.cells (#[.bool (true && t26)]) 4 (0,0)),(some b25,.stringIter ⟨#[110,100]⟩ 2),(some b4,.cells ((Act.ce (Act.mk a0.kind 0 a0.n 0 0 0 z0 (a0.draw) zC z0 z0) nS nS nS)) 36 (0,0)),(some b2,.cells ((Act.ce (Act.mk 0 0 0 0 0 0 z0 z0 zC z0 z0) nS nS nS)) 36 (0,0))]) (i:=3) rfl (Wn.none rfl) rfl rfl (by rw [← (show splice (Act.ce (Act.mk a0.kind 0 a0.n 0 0 0 z0 z0 zC z0 z0) nS nS nS) 38 (Value.cells (.agg (enc .u8 (pad32 a0.draw)))).toList = (Act.ce (Act.mk a0.kind 0 a0.n 0 0 0 z0 (a0.draw) zC z0 z0) nS nS nS) from by kernel_rfl)]; exact put_of_store (c:=(Act.ce (Act.mk a0.kind 0 a0.n 0 0 0 z0 z0 zC z0 z0) nS nS nS)) (v:=.agg (enc .u8 (pad32 a0.draw))) (n:=32) (off:=38) (j:=2) ty_s26 rfl rfl (of_decide_eq_true rfl) (one_int .u8 (pad32 a0.draw)) rfl rfl rfl) (keep_none rfl) ?_
  refine DL.nil ?_
  refine TT.inBlock ?_
  refine TT.inBlock ?_
  refine TT.inLoop ?_
  refine TT.sq rfl ?_
  refine TT.rg [0,1] [kx,kp] rfl rfl ?_
  refine DL.chrE (j:=1) rfl rfl rfl rfl rfl rfl (by decide) rfl rfl ?_
  refine DL.pu 18 (.bool false) rfl (p_extract rfl rfl rfl) ?_
  refine DL.nil ?_
  refine TT.sq rfl ?_
  refine TT.cf rfl rfl rfl ?_
  refine TT.exit rfl ?_
  refine TT.sq rfl ?_
  refine TT.rgD [0,1,2,3] [0,0,1,7] [(.look,some 2),(.look,some 0),(.store,some 3),kp] rfl mixed (by kernel_rfl) ?_
  intro w29 hl29 hj29 hz29
  refine DL.look (v:=.agg (Act.ce (Act.mk a0.kind 0 a0.n 0 0 0 z0 (a0.draw) zC z0 z0) nS nS nS)) (x:=2) (b:=b4) (i:=0) rfl (Wn.none rfl) rfl rfl rfl rfl rfl (List.mem_of_getElem? (i:=2) rfl) (b_loadA ty_a36 ty_s36 rfl rfl rfl) ?_
  refine DL.look (v:=.bool (true && t26)) (x:=0) (b:=b5) (i:=1) rfl (Wn.none rfl) rfl rfl rfl rfl rfl (List.mem_of_getElem? (i:=0) rfl) (b_load ty_a4 rfl rfl rfl) ?_
  refine DL.put (H':=[(some b5,.cells (#[.bool (true && t26)]) 4 (0,0)),(some b25,.stringIter ⟨#[110,100]⟩ 2),(some b4,.cells ((Act.ce (Act.mk a0.kind 0 a0.n 0 0 0 z0 (a0.draw) zC z0 z0) nS nS nS)) 36 (0,0)),(some b2,.cells ((Act.ce (Act.mk a0.kind 0 a0.n 0 0 0 z0 (a0.draw) zC z0 z0) nS nS nS)) 36 (0,0))]) (i:=2) rfl (Wn.none rfl) rfl rfl (f_storeA (j:=3) ty_s36 rfl rfl rfl (act_one (sl_one (RowV.sl (IntRow.nil .u8 M3))) (sl_one (RowV.sl (IntRow.nil .u8 M3))) (sl_one (RowV.sl (IntRow.nil .i64 M3)))) rfl rfl rfl) (keep_set (j:=3) hj29 rfl rfl rfl) ?_
  refine DL.pu 5 (.bool (true && t26)) rfl (p_assign rfl rfl) ?_
  refine DL.nil' hl29 ?_
  simp only [Option.some.injEq,Prod.mk.injEq] at h28
  obtain ⟨rfl,rfl⟩:=h28
  exact retF (rs:=[.cell 4 36,.tmp 5]) (vs:=[.agg (Act.ce (Act.mk a0.kind 0 a0.n 0 0 0 z0 (a0.draw) zC z0 z0) nS nS nS),.bool (true && t26)]) (nS,nS,nS) hE3 Tryz.func60 rfl rfl rfl (res_cons (ResV.cell (j:=3) ty_a36 ty_s36 rfl rfl rfl) (res_cons (ResV.tmp rfl) res_nil)) ⟨(IntRow.nil .u8 M3),(IntRow.nil .u8 M3),(IntRow.nil .i64 M3)⟩
 replace h:=(if_neg (by simpa using hs6_3)).symm.trans h
 by_cases hs6_4 : a1 = [99,110]
 ·
  subst hs6_4
  replace h:=(if_pos (by decide)).symm.trans h
  refine DL.keep (X:=Nat) (u:=fun b => ptr b 0) (H':=fun b => (some b,.stringIter ⟨#[99,110]⟩ 0) :: [(some b5,.cells (#[.bool true]) 4 (0,0)),(some b4,.cells ((Act.ce (Act.mk a0.kind 0 0 0 0 0 z0 z0 zC z0 z0) nS nS nS)) 36 (0,0)),(some b2,.cells ((Act.ce (Act.mk 0 0 0 0 0 0 z0 z0 zC z0 z0) nS nS nS)) 36 (0,0))]) (fun _ p hp => List.mem_cons_of_mem _ hp) (i:=1) rfl (Wn.none rfl) rfl rfl rfl (f_rangeText (s:=⟨#[99,110]⟩) (by kernel_rfl : Tryz.prog.underlying 9 = some .string) rfl rfl) ?_
  intro b30
  refine DL.nil ?_
  refine TT.bk rfl ?_
  refine TT.lp rfl ?_
  refine TT.sq rfl ?_
  refine TT.rg [0,1] [kx,kp] rfl rfl ?_
  refine DL.chr (j:=0) (c:=99) (wd:=1) rfl rfl rfl rfl rfl rfl (by decide) (by kernel_rfl) rfl rfl ?_
  refine DL.pu 18 (.bool true) rfl (p_extract rfl rfl rfl) ?_
  refine DL.nil ?_
  refine TT.sq rfl ?_
  refine TT.ct rfl rfl rfl ?_
  refine TT.skip ?_
  refine TT.bk rfl ?_
  refine TT.sq rfl ?_
  refine TT.rg [0,1] [kp,kp] rfl rfl ?_
  refine DL.pu 19 (.int .i32 99) rfl (p_extract rfl rfl rfl) ?_
  refine DL.pu 10 (.int .i32 99) rfl (p_assign rfl rfl) ?_
  refine DL.nil ?_
  refine TT.sq rfl ?_
  refine TT.rg [0] [kp] rfl rfl ?_
  refine DL.mv 20 (.int .i32 99) rfl rfl rfl ?_
  refine DL.nil ?_
  refine TT.bk rfl ?_
  refine TT.sq rfl ?_
  refine TT.rg [0,1] [kp,kp] rfl rfl ?_
  refine DL.pu 37 (.bool true) rfl (show FPure _ _ _ (.bool ((99 : Int) == (99 : Int))) from p_eql rfl rfl rfl) ?_
  refine DL.pu 36 (.bool true) rfl (p_assign rfl rfl) ?_
  refine DL.nil ?_
  refine TT.ct rfl rfl rfl ?_
  refine TT.sq rfl ?_
  refine TT.rg [0,1,2,3] [kp,kq,kp,kS] rfl rfl ?_
  refine DL.pu 38 (ptr b1 1) rfl (p_fieldAddr ty_f36_1 rfl rfl) ?_
  refine DL.qu 39 (.int .i64 a0.client) rfl (FImm.quiet (i_loadBoxO (I:=M3) hm_3 rfl ty_a3 rfl rfl) (fun w hc => hE3.imm hc)) ?_
  refine DL.pu 40 (ptr b4 1) rfl (p_fieldAddr ty_f36_1 rfl rfl) ?_
  refine DL.put (H':=[(some b30,.stringIter ⟨#[99,110]⟩ 1),(some b5,.cells (#[.bool true]) 4 (0,0)),(some b4,.cells ((Act.ce (Act.mk a0.kind a0.client 0 0 0 0 z0 z0 zC z0 z0) nS nS nS)) 36 (0,0)),(some b2,.cells ((Act.ce (Act.mk 0 0 0 0 0 0 z0 z0 zC z0 z0) nS nS nS)) 36 (0,0))]) (i:=3) rfl (Wn.none rfl) rfl rfl (f_store (c:=(Act.ce (Act.mk a0.kind 0 0 0 0 0 z0 z0 zC z0 z0) nS nS nS)) (v:=.int .i64 a0.client) (off:=1) (j:=2) ty_s3 rfl rfl (of_decide_eq_true rfl) trivial rfl rfl rfl) (keep_none rfl) ?_
  refine DL.nil ?_
  refine TT.rg [0,1,2,3,4] [kp,kp,kq,kq,kx] rfl rfl ?_
  refine DL.mv 41 (.func (.func 94) #[] #[ptr b5 0]) rfl rfl rfl ?_
  refine DL.pu 42 (ptr b1 1) rfl (p_fieldAddr ty_f36_1 rfl rfl) ?_
  refine DL.qu 43 (.int .i64 a0.client) rfl (FImm.quiet (i_loadBoxO (I:=M3) hm_3 rfl ty_a3 rfl rfl) (fun w hc => hE3.imm hc)) ?_
  obtain ⟨t31,h32,h33⟩:=bind_some h
  refine DL.qu 44 (.bool t31) rfl (f_callR rfl rfl (args_val (vs:=[.int .i64 a0.client,.int .i64 0,.int .i64 255]) rfl) (fun w => enter95 _ w) (fun w hc => script_within.val h32 (M:=M3) w (hE3.ext hc) )) ?_
  refine DL.turnM (M:=M3) (E:=[(some b5,.cells (#[.bool true]) 4 (0,0))]) (R:=[(some b30,.stringIter ⟨#[99,110]⟩ 1),(some b4,.cells ((Act.ce (Act.mk a0.kind a0.client 0 0 0 0 z0 z0 zC z0 z0) nS nS nS)) 36 (0,0)),(some b2,.cells ((Act.ce (Act.mk 0 0 0 0 0 0 z0 z0 zC z0 z0) nS nS nS)) 36 (0,0))]) (fun b o e => hE3.mi b o e) [1,0,2,3] rfl rfl (check94 (M:=M3) (b:=b5) (p:=t31) (q:=true)) (args:=#[.bool t31]) (caps:=#[ptr b5 0]) rfl (i:=4) rfl (Wn.none rfl) rfl rfl rfl rfl rfl rfl (args_val (vs:=[.bool t31]) rfl) (fun w => enter94 _ w) ?_
  intro _
  refine DL.nil ?_
  refine TT.inBlock ?_
  refine TT.inBlock ?_
  refine TT.inLoop ?_
  refine TT.sq rfl ?_
  refine TT.rg [0,1] [kx,kp] rfl rfl ?_
  refine DL.chr (j:=1) (c:=110) (wd:=1) rfl rfl rfl rfl rfl rfl (by decide) (by kernel_rfl) rfl rfl ?_
  refine DL.pu 18 (.bool true) rfl (p_extract rfl rfl rfl) ?_
  refine DL.nil ?_
  refine TT.sq rfl ?_
  refine TT.ct rfl rfl rfl ?_
  refine TT.skip ?_
  refine TT.bk rfl ?_
  refine TT.sq rfl ?_
  refine TT.rg [0,1] [kp,kp] rfl rfl ?_
  refine DL.pu 19 (.int .i32 110) rfl (p_extract rfl rfl rfl) ?_
  refine DL.pu 10 (.int .i32 110) rfl (p_assign rfl rfl) ?_
  refine DL.nil ?_
  refine TT.sq rfl ?_
  refine TT.rg [0] [kp] rfl rfl ?_
  refine DL.mv 20 (.int .i32 110) rfl rfl rfl ?_
  refine DL.nil ?_
  refine TT.bk rfl ?_
  refine TT.sq rfl ?_
  refine TT.rg [0,1] [kp,kp] rfl rfl ?_
  refine DL.pu 37 (.bool false) rfl (show FPure _ _ _ (.bool ((110 : Int) == (99 : Int))) from p_eql rfl rfl rfl) ?_
  refine DL.pu 36 (.bool false) rfl (p_assign rfl rfl) ?_
  refine DL.nil ?_
  refine TT.cf rfl rfl rfl ?_
  refine TT.sq rfl ?_
  refine TT.rg [0,1] [kp,kp] rfl rfl ?_
  refine DL.pu 47 (.bool true) rfl (show FPure _ _ _ (.bool ((110 : Int) == (110 : Int))) from p_eql rfl rfl rfl) ?_
  refine DL.pu 46 (.bool true) rfl (p_assign rfl rfl) ?_
  refine DL.nil ?_
  refine TT.ct rfl rfl rfl ?_
  refine TT.sq rfl ?_
  refine TT.rg [0,1,2,3] [kp,kq,kp,kS] rfl rfl ?_
  refine DL.pu 48 (ptr b1 2) rfl (p_fieldAddr ty_f36_2 rfl rfl) ?_
  refine DL.qu 49 (.int .i64 a0.n) rfl (FImm.quiet (i_loadBoxO (I:=M3) hm_3 rfl ty_a3 rfl rfl) (fun w hc => hE3.imm hc)) ?_
  refine DL.pu 50 (ptr b4 2) rfl (p_fieldAddr ty_f36_2 rfl rfl) ?_
  refine DL.put (H':=[(some b5,.cells (#[.bool (true && t31)]) 4 (0,0)),(some b30,.stringIter ⟨#[99,110]⟩ 2),(some b4,.cells ((Act.ce (Act.mk a0.kind a0.client a0.n 0 0 0 z0 z0 zC z0 z0) nS nS nS)) 36 (0,0)),(some b2,.cells ((Act.ce (Act.mk 0 0 0 0 0 0 z0 z0 zC z0 z0) nS nS nS)) 36 (0,0))]) (i:=3) rfl (Wn.none rfl) rfl rfl (f_store (c:=(Act.ce (Act.mk a0.kind a0.client 0 0 0 0 z0 z0 zC z0 z0) nS nS nS)) (v:=.int .i64 a0.n) (off:=2) (j:=2) ty_s3 rfl rfl (of_decide_eq_true rfl) trivial rfl rfl rfl) (keep_none rfl) ?_
  refine DL.nil ?_
  refine TT.rg [0,1,2,3,4] [kp,kp,kq,kq,kx] rfl rfl ?_
  refine DL.mv 51 (.func (.func 94) #[] #[ptr b5 0]) rfl rfl rfl ?_
  refine DL.pu 52 (ptr b1 2) rfl (p_fieldAddr ty_f36_2 rfl rfl) ?_
  refine DL.qu 53 (.int .i64 a0.n) rfl (FImm.quiet (i_loadBoxO (I:=M3) hm_3 rfl ty_a3 rfl rfl) (fun w hc => hE3.imm hc)) ?_
  obtain ⟨t34,h35,h36⟩:=bind_some h33
  refine DL.qu 54 (.bool t34) rfl (f_callR rfl rfl (args_val (vs:=[.int .i64 a0.n,.int .i64 0,.int .i64 1000000]) rfl) (fun w => enter95 _ w) (fun w hc => script_within.val h35 (M:=M3) w (hE3.ext hc) )) ?_
  refine DL.turnM (M:=M3) (E:=[(some b5,.cells (#[.bool (true && t31)]) 4 (0,0))]) (R:=[(some b30,.stringIter ⟨#[99,110]⟩ 2),(some b4,.cells ((Act.ce (Act.mk a0.kind a0.client a0.n 0 0 0 z0 z0 zC z0 z0) nS nS nS)) 36 (0,0)),(some b2,.cells ((Act.ce (Act.mk 0 0 0 0 0 0 z0 z0 zC z0 z0) nS nS nS)) 36 (0,0))]) (fun b o e => hE3.mi b o e) [0,1,2,3] rfl rfl (check94 (M:=M3) (b:=b5) (p:=t34) (q:=(true && t31))) (args:=#[.bool t34]) (caps:=#[ptr b5 0]) rfl (i:=4) rfl (Wn.none rfl) rfl rfl rfl rfl rfl rfl (args_val (vs:=[.bool t34]) rfl) (fun w => enter94 _ w) ?_
  intro _
  refine DL.nil ?_
  refine TT.inBlock ?_
  refine TT.inBlock ?_
  refine TT.inLoop ?_
  refine TT.sq rfl ?_
  refine TT.rg [0,1] [kx,kp] rfl rfl ?_
  refine DL.chrE (j:=1) rfl rfl rfl rfl rfl rfl (by decide) rfl rfl ?_
  refine DL.pu 18 (.bool false) rfl (p_extract rfl rfl rfl) ?_
  refine DL.nil ?_
  refine TT.sq rfl ?_
  refine TT.cf rfl rfl rfl ?_
  refine TT.exit rfl ?_
  refine TT.sq rfl ?_
  refine TT.rgD [0,1,2,3] [0,0,1,7] [(.look,some 2),(.look,some 0),(.store,some 3),kp] rfl mixed (by kernel_rfl) ?_
  intro w37 hl37 hj37 hz37
  refine DL.look (v:=.agg (Act.ce (Act.mk a0.kind a0.client a0.n 0 0 0 z0 z0 zC z0 z0) nS nS nS)) (x:=2) (b:=b4) (i:=0) rfl (Wn.none rfl) rfl rfl rfl rfl rfl (List.mem_of_getElem? (i:=2) rfl) (b_loadA ty_a36 ty_s36 rfl rfl rfl) ?_
  refine DL.look (v:=.bool ((true && t31) && t34)) (x:=0) (b:=b5) (i:=1) rfl (Wn.none rfl) rfl rfl rfl rfl rfl (List.mem_of_getElem? (i:=0) rfl) (b_load ty_a4 rfl rfl rfl) ?_
  refine DL.put (H':=[(some b5,.cells (#[.bool ((true && t31) && t34)]) 4 (0,0)),(some b30,.stringIter ⟨#[99,110]⟩ 2),(some b4,.cells ((Act.ce (Act.mk a0.kind a0.client a0.n 0 0 0 z0 z0 zC z0 z0) nS nS nS)) 36 (0,0)),(some b2,.cells ((Act.ce (Act.mk a0.kind a0.client a0.n 0 0 0 z0 z0 zC z0 z0) nS nS nS)) 36 (0,0))]) (i:=2) rfl (Wn.none rfl) rfl rfl (f_storeA (j:=3) ty_s36 rfl rfl rfl (act_one (sl_one (RowV.sl (IntRow.nil .u8 M3))) (sl_one (RowV.sl (IntRow.nil .u8 M3))) (sl_one (RowV.sl (IntRow.nil .i64 M3)))) rfl rfl rfl) (keep_set (j:=3) hj37 rfl rfl rfl) ?_
  refine DL.pu 5 (.bool ((true && t31) && t34)) rfl (p_assign rfl rfl) ?_
  refine DL.nil' hl37 ?_
  simp only [Option.some.injEq,Prod.mk.injEq] at h36
  obtain ⟨rfl,rfl⟩:=h36
  exact retF (rs:=[.cell 4 36,.tmp 5]) (vs:=[.agg (Act.ce (Act.mk a0.kind a0.client a0.n 0 0 0 z0 z0 zC z0 z0) nS nS nS),.bool ((true && t31) && t34)]) (nS,nS,nS) hE3 Tryz.func60 rfl rfl rfl (res_cons (ResV.cell (j:=3) ty_a36 ty_s36 rfl rfl rfl) (res_cons (ResV.tmp rfl) res_nil)) ⟨(IntRow.nil .u8 M3),(IntRow.nil .u8 M3),(IntRow.nil .i64 M3)⟩
 replace h:=(if_neg (by simpa using hs6_4)).symm.trans h
 by_cases hs6_5 : a1 = [121,100]
 ·
  subst hs6_5
  replace h:=(if_pos (by decide)).symm.trans h
  refine DL.keep (X:=Nat) (u:=fun b => ptr b 0) (H':=fun b => (some b,.stringIter ⟨#[121,100]⟩ 0) :: [(some b5,.cells (#[.bool true]) 4 (0,0)),(some b4,.cells ((Act.ce (Act.mk a0.kind 0 0 0 0 0 z0 z0 zC z0 z0) nS nS nS)) 36 (0,0)),(some b2,.cells ((Act.ce (Act.mk 0 0 0 0 0 0 z0 z0 zC z0 z0) nS nS nS)) 36 (0,0))]) (fun _ p hp => List.mem_cons_of_mem _ hp) (i:=1) rfl (Wn.none rfl) rfl rfl rfl (f_rangeText (s:=⟨#[121,100]⟩) (by kernel_rfl : Tryz.prog.underlying 9 = some .string) rfl rfl) ?_
  intro b38
  refine DL.nil ?_
  refine TT.bk rfl ?_
  refine TT.lp rfl ?_
  refine TT.sq rfl ?_
  refine TT.rg [0,1] [kx,kp] rfl rfl ?_
  refine DL.chr (j:=0) (c:=121) (wd:=1) rfl rfl rfl rfl rfl rfl (by decide) (by kernel_rfl) rfl rfl ?_
  refine DL.pu 18 (.bool true) rfl (p_extract rfl rfl rfl) ?_
  refine DL.nil ?_
  refine TT.sq rfl ?_
  refine TT.ct rfl rfl rfl ?_
  refine TT.skip ?_
  refine TT.bk rfl ?_
  refine TT.sq rfl ?_
  refine TT.rg [0,1] [kp,kp] rfl rfl ?_
  refine DL.pu 19 (.int .i32 121) rfl (p_extract rfl rfl rfl) ?_
  refine DL.pu 10 (.int .i32 121) rfl (p_assign rfl rfl) ?_
  refine DL.nil ?_
  refine TT.sq rfl ?_
  refine TT.rg [0] [kp] rfl rfl ?_
  refine DL.mv 20 (.int .i32 121) rfl rfl rfl ?_
  refine DL.nil ?_
  refine TT.bk rfl ?_
  refine TT.sq rfl ?_
  refine TT.rg [0,1] [kp,kp] rfl rfl ?_
  refine DL.pu 37 (.bool false) rfl (show FPure _ _ _ (.bool ((121 : Int) == (99 : Int))) from p_eql rfl rfl rfl) ?_
  refine DL.pu 36 (.bool false) rfl (p_assign rfl rfl) ?_
  refine DL.nil ?_
  refine TT.cf rfl rfl rfl ?_
  refine TT.sq rfl ?_
  refine TT.rg [0,1] [kp,kp] rfl rfl ?_
  refine DL.pu 47 (.bool false) rfl (show FPure _ _ _ (.bool ((121 : Int) == (110 : Int))) from p_eql rfl rfl rfl) ?_
  refine DL.pu 46 (.bool false) rfl (p_assign rfl rfl) ?_
  refine DL.nil ?_
  refine TT.cf rfl rfl rfl ?_
  refine TT.sq rfl ?_
  refine TT.rg [0,1] [kp,kp] rfl rfl ?_
  refine DL.pu 57 (.bool false) rfl (show FPure _ _ _ (.bool ((121 : Int) == (97 : Int))) from p_eql rfl rfl rfl) ?_
  refine DL.pu 56 (.bool false) rfl (p_assign rfl rfl) ?_
  refine DL.nil ?_
  refine TT.cf rfl rfl rfl ?_
  refine TT.sq rfl ?_
  refine TT.rg [0,1] [kp,kp] rfl rfl ?_
  refine DL.pu 67 (.bool false) rfl (show FPure _ _ _ (.bool ((121 : Int) == (98 : Int))) from p_eql rfl rfl rfl) ?_
  refine DL.pu 66 (.bool false) rfl (p_assign rfl rfl) ?_
  refine DL.nil ?_
  refine TT.cf rfl rfl rfl ?_
  refine TT.sq rfl ?_
  refine TT.rg [0,1] [kp,kp] rfl rfl ?_
  refine DL.pu 72 (.bool false) rfl (show FPure _ _ _ (.bool ((121 : Int) == (116 : Int))) from p_eql rfl rfl rfl) ?_
  refine DL.pu 71 (.bool false) rfl (p_assign rfl rfl) ?_
  refine DL.nil ?_
  refine TT.cf rfl rfl rfl ?_
  refine TT.sq rfl ?_
  refine TT.rg [0,1] [kp,kp] rfl rfl ?_
  refine DL.pu 82 (.bool false) rfl (show FPure _ _ _ (.bool ((121 : Int) == (102 : Int))) from p_eql rfl rfl rfl) ?_
  refine DL.pu 81 (.bool false) rfl (p_assign rfl rfl) ?_
  refine DL.nil ?_
  refine TT.cf rfl rfl rfl ?_
  refine TT.sq rfl ?_
  refine TT.rg [0,1] [kp,kp] rfl rfl ?_
  refine DL.pu 87 (.bool false) rfl (show FPure _ _ _ (.bool ((121 : Int) == (100 : Int))) from p_eql rfl rfl rfl) ?_
  refine DL.pu 86 (.bool false) rfl (p_assign rfl rfl) ?_
  refine DL.nil ?_
  refine TT.cf rfl rfl rfl ?_
  refine TT.sq rfl ?_
  refine TT.rg [0,1] [kp,kp] rfl rfl ?_
  refine DL.pu 92 (.bool false) rfl (show FPure _ _ _ (.bool ((121 : Int) == (109 : Int))) from p_eql rfl rfl rfl) ?_
  refine DL.pu 91 (.bool false) rfl (p_assign rfl rfl) ?_
  refine DL.nil ?_
  refine TT.cf rfl rfl rfl ?_
  refine TT.sq rfl ?_
  refine TT.rg [0,1] [kp,kp] rfl rfl ?_
  refine DL.pu 102 (.bool true) rfl (show FPure _ _ _ (.bool ((121 : Int) == (121 : Int))) from p_eql rfl rfl rfl) ?_
  refine DL.pu 101 (.bool true) rfl (p_assign rfl rfl) ?_
  refine DL.nil ?_
  refine TT.ct rfl rfl rfl ?_
  refine TT.sq rfl ?_
  refine TT.rg [0,1,2,3] [kp,kq,kp,kS] rfl rfl ?_
  refine DL.pu 103 (ptr b1 109) rfl (p_fieldAddr ty_f36_9 rfl rfl) ?_
  refine DL.qu 104 (a0_109) rfl (FImm.quiet (i_loadBoxO (I:=M3) hm_3 rfl ty_a31 rfl rfl) (fun w hc => hE3.imm hc)) ?_
  refine DL.pu 105 (ptr b4 109) rfl (p_fieldAddr ty_f36_9 rfl rfl) ?_
  refine DL.put (H':=[(some b38,.stringIter ⟨#[121,100]⟩ 1),(some b5,.cells (#[.bool true]) 4 (0,0)),(some b4,.cells ((Act.ce (Act.mk a0.kind 0 0 0 0 0 z0 z0 zC a0.bytes z0) nS a0_109 nS)) 36 (0,0)),(some b2,.cells ((Act.ce (Act.mk 0 0 0 0 0 0 z0 z0 zC z0 z0) nS nS nS)) 36 (0,0))]) (i:=3) rfl (Wn.none rfl) rfl rfl (f_store (c:=(Act.ce (Act.mk a0.kind 0 0 0 0 0 z0 z0 zC z0 z0) nS nS nS)) (v:=a0_109) (off:=109) (j:=2) ty_s31 rfl (sl_cells (RowV.sl (IntRow.mono hr_a0_109 hx3))) (of_decide_eq_true rfl) (sl_one (RowV.sl (IntRow.mono hr_a0_109 hx3))) rfl rfl rfl) (keep_none rfl) ?_
  refine DL.nil ?_
  refine TT.rg [0,1,2,3,4,5] [kp,kp,kq,kp,kp,kx] rfl rfl ?_
  refine DL.mv 106 (.func (.func 94) #[] #[ptr b5 0]) rfl rfl rfl ?_
  refine DL.pu 107 (ptr b1 109) rfl (p_fieldAddr ty_f36_9 rfl rfl) ?_
  refine DL.qu 108 (a0_109) rfl (FImm.quiet (i_loadBoxO (I:=M3) hm_3 rfl ty_a31 rfl rfl) (fun w hc => hE3.imm hc)) ?_
  refine DL.pu 109 (.int .i64 (a0.bytes.length : Int)) rfl (p_slLen ty_u31 (RowV.sl (IntRow.mono hr_a0_109 hx3)) rfl rfl) ?_
  refine DL.pu 110 (.bool (decide ((a0.bytes.length : Int) ≤ 9000))) rfl (p_leq rfl rfl rfl) ?_
  refine DL.turnM (M:=M3) (E:=[(some b5,.cells (#[.bool true]) 4 (0,0))]) (R:=[(some b38,.stringIter ⟨#[121,100]⟩ 1),(some b4,.cells ((Act.ce (Act.mk a0.kind 0 0 0 0 0 z0 z0 zC a0.bytes z0) nS a0_109 nS)) 36 (0,0)),(some b2,.cells ((Act.ce (Act.mk 0 0 0 0 0 0 z0 z0 zC z0 z0) nS nS nS)) 36 (0,0))]) (fun b o e => hE3.mi b o e) [1,0,2,3] rfl rfl (check94 (M:=M3) (b:=b5) (p:=(decide ((a0.bytes.length : Int) ≤ 9000))) (q:=true)) (args:=#[.bool (decide ((a0.bytes.length : Int) ≤ 9000))]) (caps:=#[ptr b5 0]) rfl (i:=5) rfl (Wn.none rfl) rfl rfl rfl rfl rfl rfl (args_val (vs:=[.bool (decide ((a0.bytes.length : Int) ≤ 9000))]) rfl) (fun w => enter94 _ w) ?_
  intro _
  refine DL.nil ?_
  refine TT.inBlock ?_
  refine TT.inBlock ?_
  refine TT.inLoop ?_
  refine TT.sq rfl ?_
  refine TT.rg [0,1] [kx,kp] rfl rfl ?_
  refine DL.chr (j:=1) (c:=100) (wd:=1) rfl rfl rfl rfl rfl rfl (by decide) (by kernel_rfl) rfl rfl ?_
  refine DL.pu 18 (.bool true) rfl (p_extract rfl rfl rfl) ?_
  refine DL.nil ?_
  refine TT.sq rfl ?_
  refine TT.ct rfl rfl rfl ?_
  refine TT.skip ?_
  refine TT.bk rfl ?_
  refine TT.sq rfl ?_
  refine TT.rg [0,1] [kp,kp] rfl rfl ?_
  refine DL.pu 19 (.int .i32 100) rfl (p_extract rfl rfl rfl) ?_
  refine DL.pu 10 (.int .i32 100) rfl (p_assign rfl rfl) ?_
  refine DL.nil ?_
  refine TT.sq rfl ?_
  refine TT.rg [0] [kp] rfl rfl ?_
  refine DL.mv 20 (.int .i32 100) rfl rfl rfl ?_
  refine DL.nil ?_
  refine TT.bk rfl ?_
  refine TT.sq rfl ?_
  refine TT.rg [0,1] [kp,kp] rfl rfl ?_
  refine DL.pu 37 (.bool false) rfl (show FPure _ _ _ (.bool ((100 : Int) == (99 : Int))) from p_eql rfl rfl rfl) ?_
  refine DL.pu 36 (.bool false) rfl (p_assign rfl rfl) ?_
  refine DL.nil ?_
  refine TT.cf rfl rfl rfl ?_
  refine TT.sq rfl ?_
  refine TT.rg [0,1] [kp,kp] rfl rfl ?_
  refine DL.pu 47 (.bool false) rfl (show FPure _ _ _ (.bool ((100 : Int) == (110 : Int))) from p_eql rfl rfl rfl) ?_
  refine DL.pu 46 (.bool false) rfl (p_assign rfl rfl) ?_
  refine DL.nil ?_
  refine TT.cf rfl rfl rfl ?_
  refine TT.sq rfl ?_
  refine TT.rg [0,1] [kp,kp] rfl rfl ?_
  refine DL.pu 57 (.bool false) rfl (show FPure _ _ _ (.bool ((100 : Int) == (97 : Int))) from p_eql rfl rfl rfl) ?_
  refine DL.pu 56 (.bool false) rfl (p_assign rfl rfl) ?_
  refine DL.nil ?_
  refine TT.cf rfl rfl rfl ?_
  refine TT.sq rfl ?_
  refine TT.rg [0,1] [kp,kp] rfl rfl ?_
  refine DL.pu 67 (.bool false) rfl (show FPure _ _ _ (.bool ((100 : Int) == (98 : Int))) from p_eql rfl rfl rfl) ?_
  refine DL.pu 66 (.bool false) rfl (p_assign rfl rfl) ?_
  refine DL.nil ?_
  refine TT.cf rfl rfl rfl ?_
  refine TT.sq rfl ?_
  refine TT.rg [0,1] [kp,kp] rfl rfl ?_
  refine DL.pu 72 (.bool false) rfl (show FPure _ _ _ (.bool ((100 : Int) == (116 : Int))) from p_eql rfl rfl rfl) ?_
  refine DL.pu 71 (.bool false) rfl (p_assign rfl rfl) ?_
  refine DL.nil ?_
  refine TT.cf rfl rfl rfl ?_
  refine TT.sq rfl ?_
  refine TT.rg [0,1] [kp,kp] rfl rfl ?_
  refine DL.pu 82 (.bool false) rfl (show FPure _ _ _ (.bool ((100 : Int) == (102 : Int))) from p_eql rfl rfl rfl) ?_
  refine DL.pu 81 (.bool false) rfl (p_assign rfl rfl) ?_
  refine DL.nil ?_
  refine TT.cf rfl rfl rfl ?_
  refine TT.sq rfl ?_
  refine TT.rg [0,1] [kp,kp] rfl rfl ?_
  refine DL.pu 87 (.bool true) rfl (show FPure _ _ _ (.bool ((100 : Int) == (100 : Int))) from p_eql rfl rfl rfl) ?_
  refine DL.pu 86 (.bool true) rfl (p_assign rfl rfl) ?_
  refine DL.nil ?_
  refine TT.ct rfl rfl rfl ?_
  refine TT.rg [0,1,2,3] [kp,kq,kp,kS] rfl rfl ?_
  refine DL.pu 88 (ptr b1 38) rfl (p_fieldAddr ty_f36_7 rfl rfl) ?_
  refine DL.qu 89 (.agg (enc .u8 (pad32 a0.draw))) rfl (FImm.quiet (i_loadBoxSub (I:=M3) hm_3 (vs:=encl .u8 (pad32 a0.draw)) rfl rfl ty_a26 ty_s26 rfl rfl) (fun w hc => hE3.imm hc)) ?_
  refine DL.pu 90 (ptr b4 38) rfl (p_fieldAddr ty_f36_7 rfl rfl) ?_
  refine DL.put (H':=[(some b5,.cells (#[.bool (true && decide ((a0.bytes.length : Int) ≤ 9000))]) 4 (0,0)),(some b38,.stringIter ⟨#[121,100]⟩ 2),(some b4,.cells ((Act.ce (Act.mk a0.kind 0 0 0 0 0 z0 (a0.draw) zC a0.bytes z0) nS a0_109 nS)) 36 (0,0)),(some b2,.cells ((Act.ce (Act.mk 0 0 0 0 0 0 z0 z0 zC z0 z0) nS nS nS)) 36 (0,0))]) (i:=3) rfl (Wn.none rfl) rfl rfl (by rw [← (show splice (Act.ce (Act.mk a0.kind 0 0 0 0 0 z0 z0 zC a0.bytes z0) nS a0_109 nS) 38 (Value.cells (.agg (enc .u8 (pad32 a0.draw)))).toList = (Act.ce (Act.mk a0.kind 0 0 0 0 0 z0 (a0.draw) zC a0.bytes z0) nS a0_109 nS) from by kernel_rfl)]; exact put_of_store (c:=(Act.ce (Act.mk a0.kind 0 0 0 0 0 z0 z0 zC a0.bytes z0) nS a0_109 nS)) (v:=.agg (enc .u8 (pad32 a0.draw))) (n:=32) (off:=38) (j:=2) ty_s26 rfl rfl (of_decide_eq_true rfl) (one_int .u8 (pad32 a0.draw)) rfl rfl rfl) (keep_none rfl) ?_
  refine DL.nil ?_
  refine TT.inBlock ?_
  refine TT.inBlock ?_
  refine TT.inLoop ?_
  refine TT.sq rfl ?_
  refine TT.rg [0,1] [kx,kp] rfl rfl ?_
  refine DL.chrE (j:=1) rfl rfl rfl rfl rfl rfl (by decide) rfl rfl ?_
  refine DL.pu 18 (.bool false) rfl (p_extract rfl rfl rfl) ?_
  refine DL.nil ?_
  refine TT.sq rfl ?_
  refine TT.cf rfl rfl rfl ?_
  refine TT.exit rfl ?_
  refine TT.sq rfl ?_
  refine TT.rgD [0,1,2,3] [0,0,1,7] [(.look,some 2),(.look,some 0),(.store,some 3),kp] rfl mixed (by kernel_rfl) ?_
  intro w39 hl39 hj39 hz39
  refine DL.look (v:=.agg (Act.ce (Act.mk a0.kind 0 0 0 0 0 z0 (a0.draw) zC a0.bytes z0) nS a0_109 nS)) (x:=2) (b:=b4) (i:=0) rfl (Wn.none rfl) rfl rfl rfl rfl rfl (List.mem_of_getElem? (i:=2) rfl) (b_loadA ty_a36 ty_s36 rfl rfl rfl) ?_
  refine DL.look (v:=.bool (true && decide ((a0.bytes.length : Int) ≤ 9000))) (x:=0) (b:=b5) (i:=1) rfl (Wn.none rfl) rfl rfl rfl rfl rfl (List.mem_of_getElem? (i:=0) rfl) (b_load ty_a4 rfl rfl rfl) ?_
  refine DL.put (H':=[(some b5,.cells (#[.bool (true && decide ((a0.bytes.length : Int) ≤ 9000))]) 4 (0,0)),(some b38,.stringIter ⟨#[121,100]⟩ 2),(some b4,.cells ((Act.ce (Act.mk a0.kind 0 0 0 0 0 z0 (a0.draw) zC a0.bytes z0) nS a0_109 nS)) 36 (0,0)),(some b2,.cells ((Act.ce (Act.mk a0.kind 0 0 0 0 0 z0 (a0.draw) zC a0.bytes z0) nS a0_109 nS)) 36 (0,0))]) (i:=2) rfl (Wn.none rfl) rfl rfl (f_storeA (j:=3) ty_s36 rfl rfl rfl (act_one (sl_one (RowV.sl (IntRow.nil .u8 M3))) (sl_one (RowV.sl (IntRow.mono hr_a0_109 hx3))) (sl_one (RowV.sl (IntRow.nil .i64 M3)))) rfl rfl rfl) (keep_set (j:=3) hj39 rfl rfl rfl) ?_
  refine DL.pu 5 (.bool (true && decide ((a0.bytes.length : Int) ≤ 9000))) rfl (p_assign rfl rfl) ?_
  refine DL.nil' hl39 ?_
  simp only [Option.some.injEq,Prod.mk.injEq] at h
  obtain ⟨rfl,rfl⟩:=h
  exact retF (rs:=[.cell 4 36,.tmp 5]) (vs:=[.agg (Act.ce (Act.mk a0.kind 0 0 0 0 0 z0 (a0.draw) zC a0.bytes z0) nS a0_109 nS),.bool (true && decide ((a0.bytes.length : Int) ≤ 9000))]) (nS,a0_109,nS) hE3 Tryz.func60 rfl rfl rfl (res_cons (ResV.cell (j:=3) ty_a36 ty_s36 rfl rfl rfl) (res_cons (ResV.tmp rfl) res_nil)) ⟨(IntRow.nil .u8 M3),(IntRow.mono hr_a0_109 hx3),(IntRow.nil .i64 M3)⟩
 replace h:=(if_neg (by simpa using hs6_5)).symm.trans h
 by_cases hs6_6 : a1 = [110,97,98,100]
 ·
  subst hs6_6
  replace h:=(if_pos (by decide)).symm.trans h
  refine DL.keep (X:=Nat) (u:=fun b => ptr b 0) (H':=fun b => (some b,.stringIter ⟨#[110,97,98,100]⟩ 0) :: [(some b5,.cells (#[.bool true]) 4 (0,0)),(some b4,.cells ((Act.ce (Act.mk a0.kind 0 0 0 0 0 z0 z0 zC z0 z0) nS nS nS)) 36 (0,0)),(some b2,.cells ((Act.ce (Act.mk 0 0 0 0 0 0 z0 z0 zC z0 z0) nS nS nS)) 36 (0,0))]) (fun _ p hp => List.mem_cons_of_mem _ hp) (i:=1) rfl (Wn.none rfl) rfl rfl rfl (f_rangeText (s:=⟨#[110,97,98,100]⟩) (by kernel_rfl : Tryz.prog.underlying 9 = some .string) rfl rfl) ?_
  intro b40
  refine DL.nil ?_
  refine TT.bk rfl ?_
  refine TT.lp rfl ?_
  refine TT.sq rfl ?_
  refine TT.rg [0,1] [kx,kp] rfl rfl ?_
  refine DL.chr (j:=0) (c:=110) (wd:=1) rfl rfl rfl rfl rfl rfl (by decide) (by kernel_rfl) rfl rfl ?_
  refine DL.pu 18 (.bool true) rfl (p_extract rfl rfl rfl) ?_
  refine DL.nil ?_
  refine TT.sq rfl ?_
  refine TT.ct rfl rfl rfl ?_
  refine TT.skip ?_
  refine TT.bk rfl ?_
  refine TT.sq rfl ?_
  refine TT.rg [0,1] [kp,kp] rfl rfl ?_
  refine DL.pu 19 (.int .i32 110) rfl (p_extract rfl rfl rfl) ?_
  refine DL.pu 10 (.int .i32 110) rfl (p_assign rfl rfl) ?_
  refine DL.nil ?_
  refine TT.sq rfl ?_
  refine TT.rg [0] [kp] rfl rfl ?_
  refine DL.mv 20 (.int .i32 110) rfl rfl rfl ?_
  refine DL.nil ?_
  refine TT.bk rfl ?_
  refine TT.sq rfl ?_
  refine TT.rg [0,1] [kp,kp] rfl rfl ?_
  refine DL.pu 37 (.bool false) rfl (show FPure _ _ _ (.bool ((110 : Int) == (99 : Int))) from p_eql rfl rfl rfl) ?_
  refine DL.pu 36 (.bool false) rfl (p_assign rfl rfl) ?_
  refine DL.nil ?_
  refine TT.cf rfl rfl rfl ?_
  refine TT.sq rfl ?_
  refine TT.rg [0,1] [kp,kp] rfl rfl ?_
  refine DL.pu 47 (.bool true) rfl (show FPure _ _ _ (.bool ((110 : Int) == (110 : Int))) from p_eql rfl rfl rfl) ?_
  refine DL.pu 46 (.bool true) rfl (p_assign rfl rfl) ?_
  refine DL.nil ?_
  refine TT.ct rfl rfl rfl ?_
  refine TT.sq rfl ?_
  refine TT.rg [0,1,2,3] [kp,kq,kp,kS] rfl rfl ?_
  refine DL.pu 48 (ptr b1 2) rfl (p_fieldAddr ty_f36_2 rfl rfl) ?_
  refine DL.qu 49 (.int .i64 a0.n) rfl (FImm.quiet (i_loadBoxO (I:=M3) hm_3 rfl ty_a3 rfl rfl) (fun w hc => hE3.imm hc)) ?_
  refine DL.pu 50 (ptr b4 2) rfl (p_fieldAddr ty_f36_2 rfl rfl) ?_
  refine DL.put (H':=[(some b40,.stringIter ⟨#[110,97,98,100]⟩ 1),(some b5,.cells (#[.bool true]) 4 (0,0)),(some b4,.cells ((Act.ce (Act.mk a0.kind 0 a0.n 0 0 0 z0 z0 zC z0 z0) nS nS nS)) 36 (0,0)),(some b2,.cells ((Act.ce (Act.mk 0 0 0 0 0 0 z0 z0 zC z0 z0) nS nS nS)) 36 (0,0))]) (i:=3) rfl (Wn.none rfl) rfl rfl (f_store (c:=(Act.ce (Act.mk a0.kind 0 0 0 0 0 z0 z0 zC z0 z0) nS nS nS)) (v:=.int .i64 a0.n) (off:=2) (j:=2) ty_s3 rfl rfl (of_decide_eq_true rfl) trivial rfl rfl rfl) (keep_none rfl) ?_
  refine DL.nil ?_
  refine TT.rg [0,1,2,3,4] [kp,kp,kq,kq,kx] rfl rfl ?_
  refine DL.mv 51 (.func (.func 94) #[] #[ptr b5 0]) rfl rfl rfl ?_
  refine DL.pu 52 (ptr b1 2) rfl (p_fieldAddr ty_f36_2 rfl rfl) ?_
  refine DL.qu 53 (.int .i64 a0.n) rfl (FImm.quiet (i_loadBoxO (I:=M3) hm_3 rfl ty_a3 rfl rfl) (fun w hc => hE3.imm hc)) ?_
  obtain ⟨t41,h42,h43⟩:=bind_some h
  refine DL.qu 54 (.bool t41) rfl (f_callR rfl rfl (args_val (vs:=[.int .i64 a0.n,.int .i64 0,.int .i64 1000000]) rfl) (fun w => enter95 _ w) (fun w hc => script_within.val h42 (M:=M3) w (hE3.ext hc) )) ?_
  refine DL.turnM (M:=M3) (E:=[(some b5,.cells (#[.bool true]) 4 (0,0))]) (R:=[(some b40,.stringIter ⟨#[110,97,98,100]⟩ 1),(some b4,.cells ((Act.ce (Act.mk a0.kind 0 a0.n 0 0 0 z0 z0 zC z0 z0) nS nS nS)) 36 (0,0)),(some b2,.cells ((Act.ce (Act.mk 0 0 0 0 0 0 z0 z0 zC z0 z0) nS nS nS)) 36 (0,0))]) (fun b o e => hE3.mi b o e) [1,0,2,3] rfl rfl (check94 (M:=M3) (b:=b5) (p:=t41) (q:=true)) (args:=#[.bool t41]) (caps:=#[ptr b5 0]) rfl (i:=4) rfl (Wn.none rfl) rfl rfl rfl rfl rfl rfl (args_val (vs:=[.bool t41]) rfl) (fun w => enter94 _ w) ?_
  intro _
  refine DL.nil ?_
  refine TT.inBlock ?_
  refine TT.inBlock ?_
  refine TT.inLoop ?_
  refine TT.sq rfl ?_
  refine TT.rg [0,1] [kx,kp] rfl rfl ?_
  refine DL.chr (j:=1) (c:=97) (wd:=1) rfl rfl rfl rfl rfl rfl (by decide) (by kernel_rfl) rfl rfl ?_
  refine DL.pu 18 (.bool true) rfl (p_extract rfl rfl rfl) ?_
  refine DL.nil ?_
  refine TT.sq rfl ?_
  refine TT.ct rfl rfl rfl ?_
  refine TT.skip ?_
  refine TT.bk rfl ?_
  refine TT.sq rfl ?_
  refine TT.rg [0,1] [kp,kp] rfl rfl ?_
  refine DL.pu 19 (.int .i32 97) rfl (p_extract rfl rfl rfl) ?_
  refine DL.pu 10 (.int .i32 97) rfl (p_assign rfl rfl) ?_
  refine DL.nil ?_
  refine TT.sq rfl ?_
  refine TT.rg [0] [kp] rfl rfl ?_
  refine DL.mv 20 (.int .i32 97) rfl rfl rfl ?_
  refine DL.nil ?_
  refine TT.bk rfl ?_
  refine TT.sq rfl ?_
  refine TT.rg [0,1] [kp,kp] rfl rfl ?_
  refine DL.pu 37 (.bool false) rfl (show FPure _ _ _ (.bool ((97 : Int) == (99 : Int))) from p_eql rfl rfl rfl) ?_
  refine DL.pu 36 (.bool false) rfl (p_assign rfl rfl) ?_
  refine DL.nil ?_
  refine TT.cf rfl rfl rfl ?_
  refine TT.sq rfl ?_
  refine TT.rg [0,1] [kp,kp] rfl rfl ?_
  refine DL.pu 47 (.bool false) rfl (show FPure _ _ _ (.bool ((97 : Int) == (110 : Int))) from p_eql rfl rfl rfl) ?_
  refine DL.pu 46 (.bool false) rfl (p_assign rfl rfl) ?_
  refine DL.nil ?_
  refine TT.cf rfl rfl rfl ?_
  refine TT.sq rfl ?_
  refine TT.rg [0,1] [kp,kp] rfl rfl ?_
  refine DL.pu 57 (.bool true) rfl (show FPure _ _ _ (.bool ((97 : Int) == (97 : Int))) from p_eql rfl rfl rfl) ?_
  refine DL.pu 56 (.bool true) rfl (p_assign rfl rfl) ?_
  refine DL.nil ?_
  refine TT.ct rfl rfl rfl ?_
  refine TT.sq rfl ?_
  refine TT.rg [0,1,2,3] [kp,kq,kp,kS] rfl rfl ?_
  refine DL.pu 58 (ptr b1 3) rfl (p_fieldAddr ty_f36_3 rfl rfl) ?_
  refine DL.qu 59 (.int .i64 a0.at_) rfl (FImm.quiet (i_loadBoxO (I:=M3) hm_3 rfl ty_a3 rfl rfl) (fun w hc => hE3.imm hc)) ?_
  refine DL.pu 60 (ptr b4 3) rfl (p_fieldAddr ty_f36_3 rfl rfl) ?_
  refine DL.put (H':=[(some b5,.cells (#[.bool (true && t41)]) 4 (0,0)),(some b40,.stringIter ⟨#[110,97,98,100]⟩ 2),(some b4,.cells ((Act.ce (Act.mk a0.kind 0 a0.n a0.at_ 0 0 z0 z0 zC z0 z0) nS nS nS)) 36 (0,0)),(some b2,.cells ((Act.ce (Act.mk 0 0 0 0 0 0 z0 z0 zC z0 z0) nS nS nS)) 36 (0,0))]) (i:=3) rfl (Wn.none rfl) rfl rfl (f_store (c:=(Act.ce (Act.mk a0.kind 0 a0.n 0 0 0 z0 z0 zC z0 z0) nS nS nS)) (v:=.int .i64 a0.at_) (off:=3) (j:=2) ty_s3 rfl rfl (of_decide_eq_true rfl) trivial rfl rfl rfl) (keep_none rfl) ?_
  refine DL.nil ?_
  refine TT.rg [0,1,2,3,4] [kp,kp,kq,kq,kx] rfl rfl ?_
  refine DL.mv 61 (.func (.func 94) #[] #[ptr b5 0]) rfl rfl rfl ?_
  refine DL.pu 62 (ptr b1 3) rfl (p_fieldAddr ty_f36_3 rfl rfl) ?_
  refine DL.qu 63 (.int .i64 a0.at_) rfl (FImm.quiet (i_loadBoxO (I:=M3) hm_3 rfl ty_a3 rfl rfl) (fun w hc => hE3.imm hc)) ?_
  obtain ⟨t44,h45,h46⟩:=bind_some h43
  refine DL.qu 64 (.bool t44) rfl (f_callR rfl rfl (args_val (vs:=[.int .i64 a0.at_,.int .i64 0,.int .i64 1000000]) rfl) (fun w => enter95 _ w) (fun w hc => script_within.val h45 (M:=M3) w (hE3.ext hc) )) ?_
  refine DL.turnM (M:=M3) (E:=[(some b5,.cells (#[.bool (true && t41)]) 4 (0,0))]) (R:=[(some b40,.stringIter ⟨#[110,97,98,100]⟩ 2),(some b4,.cells ((Act.ce (Act.mk a0.kind 0 a0.n a0.at_ 0 0 z0 z0 zC z0 z0) nS nS nS)) 36 (0,0)),(some b2,.cells ((Act.ce (Act.mk 0 0 0 0 0 0 z0 z0 zC z0 z0) nS nS nS)) 36 (0,0))]) (fun b o e => hE3.mi b o e) [0,1,2,3] rfl rfl (check94 (M:=M3) (b:=b5) (p:=t44) (q:=(true && t41))) (args:=#[.bool t44]) (caps:=#[ptr b5 0]) rfl (i:=4) rfl (Wn.none rfl) rfl rfl rfl rfl rfl rfl (args_val (vs:=[.bool t44]) rfl) (fun w => enter94 _ w) ?_
  intro _
  refine DL.nil ?_
  refine TT.inBlock ?_
  refine TT.inBlock ?_
  refine TT.inLoop ?_
  refine TT.sq rfl ?_
  refine TT.rg [0,1] [kx,kp] rfl rfl ?_
  refine DL.chr (j:=1) (c:=98) (wd:=1) rfl rfl rfl rfl rfl rfl (by decide) (by kernel_rfl) rfl rfl ?_
  refine DL.pu 18 (.bool true) rfl (p_extract rfl rfl rfl) ?_
  refine DL.nil ?_
  refine TT.sq rfl ?_
  refine TT.ct rfl rfl rfl ?_
  refine TT.skip ?_
  refine TT.bk rfl ?_
  refine TT.sq rfl ?_
  refine TT.rg [0,1] [kp,kp] rfl rfl ?_
  refine DL.pu 19 (.int .i32 98) rfl (p_extract rfl rfl rfl) ?_
  refine DL.pu 10 (.int .i32 98) rfl (p_assign rfl rfl) ?_
  refine DL.nil ?_
  refine TT.sq rfl ?_
  refine TT.rg [0] [kp] rfl rfl ?_
  refine DL.mv 20 (.int .i32 98) rfl rfl rfl ?_
  refine DL.nil ?_
  refine TT.bk rfl ?_
  refine TT.sq rfl ?_
  refine TT.rg [0,1] [kp,kp] rfl rfl ?_
  refine DL.pu 37 (.bool false) rfl (show FPure _ _ _ (.bool ((98 : Int) == (99 : Int))) from p_eql rfl rfl rfl) ?_
  refine DL.pu 36 (.bool false) rfl (p_assign rfl rfl) ?_
  refine DL.nil ?_
  refine TT.cf rfl rfl rfl ?_
  refine TT.sq rfl ?_
  refine TT.rg [0,1] [kp,kp] rfl rfl ?_
  refine DL.pu 47 (.bool false) rfl (show FPure _ _ _ (.bool ((98 : Int) == (110 : Int))) from p_eql rfl rfl rfl) ?_
  refine DL.pu 46 (.bool false) rfl (p_assign rfl rfl) ?_
  refine DL.nil ?_
  refine TT.cf rfl rfl rfl ?_
  refine TT.sq rfl ?_
  refine TT.rg [0,1] [kp,kp] rfl rfl ?_
  refine DL.pu 57 (.bool false) rfl (show FPure _ _ _ (.bool ((98 : Int) == (97 : Int))) from p_eql rfl rfl rfl) ?_
  refine DL.pu 56 (.bool false) rfl (p_assign rfl rfl) ?_
  refine DL.nil ?_
  refine TT.cf rfl rfl rfl ?_
  refine TT.sq rfl ?_
  refine TT.rg [0,1] [kp,kp] rfl rfl ?_
  refine DL.pu 67 (.bool true) rfl (show FPure _ _ _ (.bool ((98 : Int) == (98 : Int))) from p_eql rfl rfl rfl) ?_
  refine DL.pu 66 (.bool true) rfl (p_assign rfl rfl) ?_
  refine DL.nil ?_
  refine TT.ct rfl rfl rfl ?_
  refine TT.rg [0,1,2,3] [kp,kq,kp,kS] rfl rfl ?_
  refine DL.pu 68 (ptr b1 4) rfl (p_fieldAddr ty_f36_4 rfl rfl) ?_
  refine DL.qu 69 (.int .u8 a0.byt) rfl (FImm.quiet (i_loadBoxO (I:=M3) hm_3 rfl ty_a5 rfl rfl) (fun w hc => hE3.imm hc)) ?_
  refine DL.pu 70 (ptr b4 4) rfl (p_fieldAddr ty_f36_4 rfl rfl) ?_
  refine DL.put (H':=[(some b5,.cells (#[.bool ((true && t41) && t44)]) 4 (0,0)),(some b40,.stringIter ⟨#[110,97,98,100]⟩ 3),(some b4,.cells ((Act.ce (Act.mk a0.kind 0 a0.n a0.at_ a0.byt 0 z0 z0 zC z0 z0) nS nS nS)) 36 (0,0)),(some b2,.cells ((Act.ce (Act.mk 0 0 0 0 0 0 z0 z0 zC z0 z0) nS nS nS)) 36 (0,0))]) (i:=3) rfl (Wn.none rfl) rfl rfl (f_store (c:=(Act.ce (Act.mk a0.kind 0 a0.n a0.at_ 0 0 z0 z0 zC z0 z0) nS nS nS)) (v:=.int .u8 a0.byt) (off:=4) (j:=2) ty_s5 rfl rfl (of_decide_eq_true rfl) trivial rfl rfl rfl) (keep_none rfl) ?_
  refine DL.nil ?_
  refine TT.inBlock ?_
  refine TT.inBlock ?_
  refine TT.inLoop ?_
  refine TT.sq rfl ?_
  refine TT.rg [0,1] [kx,kp] rfl rfl ?_
  refine DL.chr (j:=1) (c:=100) (wd:=1) rfl rfl rfl rfl rfl rfl (by decide) (by kernel_rfl) rfl rfl ?_
  refine DL.pu 18 (.bool true) rfl (p_extract rfl rfl rfl) ?_
  refine DL.nil ?_
  refine TT.sq rfl ?_
  refine TT.ct rfl rfl rfl ?_
  refine TT.skip ?_
  refine TT.bk rfl ?_
  refine TT.sq rfl ?_
  refine TT.rg [0,1] [kp,kp] rfl rfl ?_
  refine DL.pu 19 (.int .i32 100) rfl (p_extract rfl rfl rfl) ?_
  refine DL.pu 10 (.int .i32 100) rfl (p_assign rfl rfl) ?_
  refine DL.nil ?_
  refine TT.sq rfl ?_
  refine TT.rg [0] [kp] rfl rfl ?_
  refine DL.mv 20 (.int .i32 100) rfl rfl rfl ?_
  refine DL.nil ?_
  refine TT.bk rfl ?_
  refine TT.sq rfl ?_
  refine TT.rg [0,1] [kp,kp] rfl rfl ?_
  refine DL.pu 37 (.bool false) rfl (show FPure _ _ _ (.bool ((100 : Int) == (99 : Int))) from p_eql rfl rfl rfl) ?_
  refine DL.pu 36 (.bool false) rfl (p_assign rfl rfl) ?_
  refine DL.nil ?_
  refine TT.cf rfl rfl rfl ?_
  refine TT.sq rfl ?_
  refine TT.rg [0,1] [kp,kp] rfl rfl ?_
  refine DL.pu 47 (.bool false) rfl (show FPure _ _ _ (.bool ((100 : Int) == (110 : Int))) from p_eql rfl rfl rfl) ?_
  refine DL.pu 46 (.bool false) rfl (p_assign rfl rfl) ?_
  refine DL.nil ?_
  refine TT.cf rfl rfl rfl ?_
  refine TT.sq rfl ?_
  refine TT.rg [0,1] [kp,kp] rfl rfl ?_
  refine DL.pu 57 (.bool false) rfl (show FPure _ _ _ (.bool ((100 : Int) == (97 : Int))) from p_eql rfl rfl rfl) ?_
  refine DL.pu 56 (.bool false) rfl (p_assign rfl rfl) ?_
  refine DL.nil ?_
  refine TT.cf rfl rfl rfl ?_
  refine TT.sq rfl ?_
  refine TT.rg [0,1] [kp,kp] rfl rfl ?_
  refine DL.pu 67 (.bool false) rfl (show FPure _ _ _ (.bool ((100 : Int) == (98 : Int))) from p_eql rfl rfl rfl) ?_
  refine DL.pu 66 (.bool false) rfl (p_assign rfl rfl) ?_
  refine DL.nil ?_
  refine TT.cf rfl rfl rfl ?_
  refine TT.sq rfl ?_
  refine TT.rg [0,1] [kp,kp] rfl rfl ?_
  refine DL.pu 72 (.bool false) rfl (show FPure _ _ _ (.bool ((100 : Int) == (116 : Int))) from p_eql rfl rfl rfl) ?_
  refine DL.pu 71 (.bool false) rfl (p_assign rfl rfl) ?_
  refine DL.nil ?_
  refine TT.cf rfl rfl rfl ?_
  refine TT.sq rfl ?_
  refine TT.rg [0,1] [kp,kp] rfl rfl ?_
  refine DL.pu 82 (.bool false) rfl (show FPure _ _ _ (.bool ((100 : Int) == (102 : Int))) from p_eql rfl rfl rfl) ?_
  refine DL.pu 81 (.bool false) rfl (p_assign rfl rfl) ?_
  refine DL.nil ?_
  refine TT.cf rfl rfl rfl ?_
  refine TT.sq rfl ?_
  refine TT.rg [0,1] [kp,kp] rfl rfl ?_
  refine DL.pu 87 (.bool true) rfl (show FPure _ _ _ (.bool ((100 : Int) == (100 : Int))) from p_eql rfl rfl rfl) ?_
  refine DL.pu 86 (.bool true) rfl (p_assign rfl rfl) ?_
  refine DL.nil ?_
  refine TT.ct rfl rfl rfl ?_
  refine TT.rg [0,1,2,3] [kp,kq,kp,kS] rfl rfl ?_
  refine DL.pu 88 (ptr b1 38) rfl (p_fieldAddr ty_f36_7 rfl rfl) ?_
  refine DL.qu 89 (.agg (enc .u8 (pad32 a0.draw))) rfl (FImm.quiet (i_loadBoxSub (I:=M3) hm_3 (vs:=encl .u8 (pad32 a0.draw)) rfl rfl ty_a26 ty_s26 rfl rfl) (fun w hc => hE3.imm hc)) ?_
  refine DL.pu 90 (ptr b4 38) rfl (p_fieldAddr ty_f36_7 rfl rfl) ?_
  refine DL.put (H':=[(some b5,.cells (#[.bool ((true && t41) && t44)]) 4 (0,0)),(some b40,.stringIter ⟨#[110,97,98,100]⟩ 4),(some b4,.cells ((Act.ce (Act.mk a0.kind 0 a0.n a0.at_ a0.byt 0 z0 (a0.draw) zC z0 z0) nS nS nS)) 36 (0,0)),(some b2,.cells ((Act.ce (Act.mk 0 0 0 0 0 0 z0 z0 zC z0 z0) nS nS nS)) 36 (0,0))]) (i:=3) rfl (Wn.none rfl) rfl rfl (by rw [← (show splice (Act.ce (Act.mk a0.kind 0 a0.n a0.at_ a0.byt 0 z0 z0 zC z0 z0) nS nS nS) 38 (Value.cells (.agg (enc .u8 (pad32 a0.draw)))).toList = (Act.ce (Act.mk a0.kind 0 a0.n a0.at_ a0.byt 0 z0 (a0.draw) zC z0 z0) nS nS nS) from by kernel_rfl)]; exact put_of_store (c:=(Act.ce (Act.mk a0.kind 0 a0.n a0.at_ a0.byt 0 z0 z0 zC z0 z0) nS nS nS)) (v:=.agg (enc .u8 (pad32 a0.draw))) (n:=32) (off:=38) (j:=2) ty_s26 rfl rfl (of_decide_eq_true rfl) (one_int .u8 (pad32 a0.draw)) rfl rfl rfl) (keep_none rfl) ?_
  refine DL.nil ?_
  refine TT.inBlock ?_
  refine TT.inBlock ?_
  refine TT.inLoop ?_
  refine TT.sq rfl ?_
  refine TT.rg [0,1] [kx,kp] rfl rfl ?_
  refine DL.chrE (j:=1) rfl rfl rfl rfl rfl rfl (by decide) rfl rfl ?_
  refine DL.pu 18 (.bool false) rfl (p_extract rfl rfl rfl) ?_
  refine DL.nil ?_
  refine TT.sq rfl ?_
  refine TT.cf rfl rfl rfl ?_
  refine TT.exit rfl ?_
  refine TT.sq rfl ?_
  refine TT.rgD [0,1,2,3] [0,0,1,7] [(.look,some 2),(.look,some 0),(.store,some 3),kp] rfl mixed (by kernel_rfl) ?_
  intro w47 hl47 hj47 hz47
  refine DL.look (v:=.agg (Act.ce (Act.mk a0.kind 0 a0.n a0.at_ a0.byt 0 z0 (a0.draw) zC z0 z0) nS nS nS)) (x:=2) (b:=b4) (i:=0) rfl (Wn.none rfl) rfl rfl rfl rfl rfl (List.mem_of_getElem? (i:=2) rfl) (b_loadA ty_a36 ty_s36 rfl rfl rfl) ?_
  refine DL.look (v:=.bool ((true && t41) && t44)) (x:=0) (b:=b5) (i:=1) rfl (Wn.none rfl) rfl rfl rfl rfl rfl (List.mem_of_getElem? (i:=0) rfl) (b_load ty_a4 rfl rfl rfl) ?_
  refine DL.put (H':=[(some b5,.cells (#[.bool ((true && t41) && t44)]) 4 (0,0)),(some b40,.stringIter ⟨#[110,97,98,100]⟩ 4),(some b4,.cells ((Act.ce (Act.mk a0.kind 0 a0.n a0.at_ a0.byt 0 z0 (a0.draw) zC z0 z0) nS nS nS)) 36 (0,0)),(some b2,.cells ((Act.ce (Act.mk a0.kind 0 a0.n a0.at_ a0.byt 0 z0 (a0.draw) zC z0 z0) nS nS nS)) 36 (0,0))]) (i:=2) rfl (Wn.none rfl) rfl rfl (f_storeA (j:=3) ty_s36 rfl rfl rfl (act_one (sl_one (RowV.sl (IntRow.nil .u8 M3))) (sl_one (RowV.sl (IntRow.nil .u8 M3))) (sl_one (RowV.sl (IntRow.nil .i64 M3)))) rfl rfl rfl) (keep_set (j:=3) hj47 rfl rfl rfl) ?_
  refine DL.pu 5 (.bool ((true && t41) && t44)) rfl (p_assign rfl rfl) ?_
  refine DL.nil' hl47 ?_
  simp only [Option.some.injEq,Prod.mk.injEq] at h46
  obtain ⟨rfl,rfl⟩:=h46
  exact retF (rs:=[.cell 4 36,.tmp 5]) (vs:=[.agg (Act.ce (Act.mk a0.kind 0 a0.n a0.at_ a0.byt 0 z0 (a0.draw) zC z0 z0) nS nS nS),.bool ((true && t41) && t44)]) (nS,nS,nS) hE3 Tryz.func60 rfl rfl rfl (res_cons (ResV.cell (j:=3) ty_a36 ty_s36 rfl rfl rfl) (res_cons (ResV.tmp rfl) res_nil)) ⟨(IntRow.nil .u8 M3),(IntRow.nil .u8 M3),(IntRow.nil .i64 M3)⟩
 replace h:=(if_neg (by simpa using hs6_6)).symm.trans h
 by_cases hs6_7 : a1 = [116]
 ·
  subst hs6_7
  replace h:=(if_pos (by decide)).symm.trans h
  refine DL.keep (X:=Nat) (u:=fun b => ptr b 0) (H':=fun b => (some b,.stringIter ⟨#[116]⟩ 0) :: [(some b5,.cells (#[.bool true]) 4 (0,0)),(some b4,.cells ((Act.ce (Act.mk a0.kind 0 0 0 0 0 z0 z0 zC z0 z0) nS nS nS)) 36 (0,0)),(some b2,.cells ((Act.ce (Act.mk 0 0 0 0 0 0 z0 z0 zC z0 z0) nS nS nS)) 36 (0,0))]) (fun _ p hp => List.mem_cons_of_mem _ hp) (i:=1) rfl (Wn.none rfl) rfl rfl rfl (f_rangeText (s:=⟨#[116]⟩) (by kernel_rfl : Tryz.prog.underlying 9 = some .string) rfl rfl) ?_
  intro b48
  refine DL.nil ?_
  refine TT.bk rfl ?_
  refine TT.lp rfl ?_
  refine TT.sq rfl ?_
  refine TT.rg [0,1] [kx,kp] rfl rfl ?_
  refine DL.chr (j:=0) (c:=116) (wd:=1) rfl rfl rfl rfl rfl rfl (by decide) (by kernel_rfl) rfl rfl ?_
  refine DL.pu 18 (.bool true) rfl (p_extract rfl rfl rfl) ?_
  refine DL.nil ?_
  refine TT.sq rfl ?_
  refine TT.ct rfl rfl rfl ?_
  refine TT.skip ?_
  refine TT.bk rfl ?_
  refine TT.sq rfl ?_
  refine TT.rg [0,1] [kp,kp] rfl rfl ?_
  refine DL.pu 19 (.int .i32 116) rfl (p_extract rfl rfl rfl) ?_
  refine DL.pu 10 (.int .i32 116) rfl (p_assign rfl rfl) ?_
  refine DL.nil ?_
  refine TT.sq rfl ?_
  refine TT.rg [0] [kp] rfl rfl ?_
  refine DL.mv 20 (.int .i32 116) rfl rfl rfl ?_
  refine DL.nil ?_
  refine TT.bk rfl ?_
  refine TT.sq rfl ?_
  refine TT.rg [0,1] [kp,kp] rfl rfl ?_
  refine DL.pu 37 (.bool false) rfl (show FPure _ _ _ (.bool ((116 : Int) == (99 : Int))) from p_eql rfl rfl rfl) ?_
  refine DL.pu 36 (.bool false) rfl (p_assign rfl rfl) ?_
  refine DL.nil ?_
  refine TT.cf rfl rfl rfl ?_
  refine TT.sq rfl ?_
  refine TT.rg [0,1] [kp,kp] rfl rfl ?_
  refine DL.pu 47 (.bool false) rfl (show FPure _ _ _ (.bool ((116 : Int) == (110 : Int))) from p_eql rfl rfl rfl) ?_
  refine DL.pu 46 (.bool false) rfl (p_assign rfl rfl) ?_
  refine DL.nil ?_
  refine TT.cf rfl rfl rfl ?_
  refine TT.sq rfl ?_
  refine TT.rg [0,1] [kp,kp] rfl rfl ?_
  refine DL.pu 57 (.bool false) rfl (show FPure _ _ _ (.bool ((116 : Int) == (97 : Int))) from p_eql rfl rfl rfl) ?_
  refine DL.pu 56 (.bool false) rfl (p_assign rfl rfl) ?_
  refine DL.nil ?_
  refine TT.cf rfl rfl rfl ?_
  refine TT.sq rfl ?_
  refine TT.rg [0,1] [kp,kp] rfl rfl ?_
  refine DL.pu 67 (.bool false) rfl (show FPure _ _ _ (.bool ((116 : Int) == (98 : Int))) from p_eql rfl rfl rfl) ?_
  refine DL.pu 66 (.bool false) rfl (p_assign rfl rfl) ?_
  refine DL.nil ?_
  refine TT.cf rfl rfl rfl ?_
  refine TT.sq rfl ?_
  refine TT.rg [0,1] [kp,kp] rfl rfl ?_
  refine DL.pu 72 (.bool true) rfl (show FPure _ _ _ (.bool ((116 : Int) == (116 : Int))) from p_eql rfl rfl rfl) ?_
  refine DL.pu 71 (.bool true) rfl (p_assign rfl rfl) ?_
  refine DL.nil ?_
  refine TT.ct rfl rfl rfl ?_
  refine TT.sq rfl ?_
  refine TT.rg [0,1,2,3] [kp,kq,kp,kS] rfl rfl ?_
  refine DL.pu 73 (ptr b1 5) rfl (p_fieldAddr ty_f36_5 rfl rfl) ?_
  refine DL.qu 74 (.int .u64 a0.tick) rfl (FImm.quiet (i_loadBoxO (I:=M3) hm_3 rfl ty_a24 rfl rfl) (fun w hc => hE3.imm hc)) ?_
  refine DL.pu 75 (ptr b4 5) rfl (p_fieldAddr ty_f36_5 rfl rfl) ?_
  refine DL.put (H':=[(some b48,.stringIter ⟨#[116]⟩ 1),(some b5,.cells (#[.bool true]) 4 (0,0)),(some b4,.cells ((Act.ce (Act.mk a0.kind 0 0 0 0 a0.tick z0 z0 zC z0 z0) nS nS nS)) 36 (0,0)),(some b2,.cells ((Act.ce (Act.mk 0 0 0 0 0 0 z0 z0 zC z0 z0) nS nS nS)) 36 (0,0))]) (i:=3) rfl (Wn.none rfl) rfl rfl (f_store (c:=(Act.ce (Act.mk a0.kind 0 0 0 0 0 z0 z0 zC z0 z0) nS nS nS)) (v:=.int .u64 a0.tick) (off:=5) (j:=2) ty_s24 rfl rfl (of_decide_eq_true rfl) trivial rfl rfl rfl) (keep_none rfl) ?_
  refine DL.nil ?_
  refine TT.rg [0,1,2,3,4] [kp,kp,kq,kp,kx] rfl rfl ?_
  refine DL.mv 76 (.func (.func 94) #[] #[ptr b5 0]) rfl rfl rfl ?_
  refine DL.pu 77 (ptr b1 5) rfl (p_fieldAddr ty_f36_5 rfl rfl) ?_
  refine DL.qu 78 (.int .u64 a0.tick) rfl (FImm.quiet (i_loadBoxO (I:=M3) hm_3 rfl ty_a24 rfl rfl) (fun w hc => hE3.imm hc)) ?_
  refine DL.pu 79 (.bool (decide (a0.tick ≤ 4294967296))) rfl (p_leq rfl rfl rfl) ?_
  refine DL.turnM (M:=M3) (E:=[(some b5,.cells (#[.bool true]) 4 (0,0))]) (R:=[(some b48,.stringIter ⟨#[116]⟩ 1),(some b4,.cells ((Act.ce (Act.mk a0.kind 0 0 0 0 a0.tick z0 z0 zC z0 z0) nS nS nS)) 36 (0,0)),(some b2,.cells ((Act.ce (Act.mk 0 0 0 0 0 0 z0 z0 zC z0 z0) nS nS nS)) 36 (0,0))]) (fun b o e => hE3.mi b o e) [1,0,2,3] rfl rfl (check94 (M:=M3) (b:=b5) (p:=(decide (a0.tick ≤ 4294967296))) (q:=true)) (args:=#[.bool (decide (a0.tick ≤ 4294967296))]) (caps:=#[ptr b5 0]) rfl (i:=4) rfl (Wn.none rfl) rfl rfl rfl rfl rfl rfl (args_val (vs:=[.bool (decide (a0.tick ≤ 4294967296))]) rfl) (fun w => enter94 _ w) ?_
  intro _
  refine DL.nil ?_
  refine TT.inBlock ?_
  refine TT.inBlock ?_
  refine TT.inLoop ?_
  refine TT.sq rfl ?_
  refine TT.rg [0,1] [kx,kp] rfl rfl ?_
  refine DL.chrE (j:=1) rfl rfl rfl rfl rfl rfl (by decide) rfl rfl ?_
  refine DL.pu 18 (.bool false) rfl (p_extract rfl rfl rfl) ?_
  refine DL.nil ?_
  refine TT.sq rfl ?_
  refine TT.cf rfl rfl rfl ?_
  refine TT.exit rfl ?_
  refine TT.sq rfl ?_
  refine TT.rgD [0,1,2,3] [0,0,1,7] [(.look,some 2),(.look,some 0),(.store,some 3),kp] rfl mixed (by kernel_rfl) ?_
  intro w49 hl49 hj49 hz49
  refine DL.look (v:=.agg (Act.ce (Act.mk a0.kind 0 0 0 0 a0.tick z0 z0 zC z0 z0) nS nS nS)) (x:=2) (b:=b4) (i:=0) rfl (Wn.none rfl) rfl rfl rfl rfl rfl (List.mem_of_getElem? (i:=2) rfl) (b_loadA ty_a36 ty_s36 rfl rfl rfl) ?_
  refine DL.look (v:=.bool (true && decide (a0.tick ≤ 4294967296))) (x:=0) (b:=b5) (i:=1) rfl (Wn.none rfl) rfl rfl rfl rfl rfl (List.mem_of_getElem? (i:=0) rfl) (b_load ty_a4 rfl rfl rfl) ?_
  refine DL.put (H':=[(some b5,.cells (#[.bool (true && decide (a0.tick ≤ 4294967296))]) 4 (0,0)),(some b48,.stringIter ⟨#[116]⟩ 1),(some b4,.cells ((Act.ce (Act.mk a0.kind 0 0 0 0 a0.tick z0 z0 zC z0 z0) nS nS nS)) 36 (0,0)),(some b2,.cells ((Act.ce (Act.mk a0.kind 0 0 0 0 a0.tick z0 z0 zC z0 z0) nS nS nS)) 36 (0,0))]) (i:=2) rfl (Wn.none rfl) rfl rfl (f_storeA (j:=3) ty_s36 rfl rfl rfl (act_one (sl_one (RowV.sl (IntRow.nil .u8 M3))) (sl_one (RowV.sl (IntRow.nil .u8 M3))) (sl_one (RowV.sl (IntRow.nil .i64 M3)))) rfl rfl rfl) (keep_set (j:=3) hj49 rfl rfl rfl) ?_
  refine DL.pu 5 (.bool (true && decide (a0.tick ≤ 4294967296))) rfl (p_assign rfl rfl) ?_
  refine DL.nil' hl49 ?_
  simp only [Option.some.injEq,Prod.mk.injEq] at h
  obtain ⟨rfl,rfl⟩:=h
  exact retF (rs:=[.cell 4 36,.tmp 5]) (vs:=[.agg (Act.ce (Act.mk a0.kind 0 0 0 0 a0.tick z0 z0 zC z0 z0) nS nS nS),.bool (true && decide (a0.tick ≤ 4294967296))]) (nS,nS,nS) hE3 Tryz.func60 rfl rfl rfl (res_cons (ResV.cell (j:=3) ty_a36 ty_s36 rfl rfl rfl) (res_cons (ResV.tmp rfl) res_nil)) ⟨(IntRow.nil .u8 M3),(IntRow.nil .u8 M3),(IntRow.nil .i64 M3)⟩
 replace h:=(if_neg (by simpa using hs6_7)).symm.trans h
 by_cases hs6_8 : a1 = [110]
 ·
  subst hs6_8
  replace h:=(if_pos (by decide)).symm.trans h
  refine DL.keep (X:=Nat) (u:=fun b => ptr b 0) (H':=fun b => (some b,.stringIter ⟨#[110]⟩ 0) :: [(some b5,.cells (#[.bool true]) 4 (0,0)),(some b4,.cells ((Act.ce (Act.mk a0.kind 0 0 0 0 0 z0 z0 zC z0 z0) nS nS nS)) 36 (0,0)),(some b2,.cells ((Act.ce (Act.mk 0 0 0 0 0 0 z0 z0 zC z0 z0) nS nS nS)) 36 (0,0))]) (fun _ p hp => List.mem_cons_of_mem _ hp) (i:=1) rfl (Wn.none rfl) rfl rfl rfl (f_rangeText (s:=⟨#[110]⟩) (by kernel_rfl : Tryz.prog.underlying 9 = some .string) rfl rfl) ?_
  intro b50
  refine DL.nil ?_
  refine TT.bk rfl ?_
  refine TT.lp rfl ?_
  refine TT.sq rfl ?_
  refine TT.rg [0,1] [kx,kp] rfl rfl ?_
  refine DL.chr (j:=0) (c:=110) (wd:=1) rfl rfl rfl rfl rfl rfl (by decide) (by kernel_rfl) rfl rfl ?_
  refine DL.pu 18 (.bool true) rfl (p_extract rfl rfl rfl) ?_
  refine DL.nil ?_
  refine TT.sq rfl ?_
  refine TT.ct rfl rfl rfl ?_
  refine TT.skip ?_
  refine TT.bk rfl ?_
  refine TT.sq rfl ?_
  refine TT.rg [0,1] [kp,kp] rfl rfl ?_
  refine DL.pu 19 (.int .i32 110) rfl (p_extract rfl rfl rfl) ?_
  refine DL.pu 10 (.int .i32 110) rfl (p_assign rfl rfl) ?_
  refine DL.nil ?_
  refine TT.sq rfl ?_
  refine TT.rg [0] [kp] rfl rfl ?_
  refine DL.mv 20 (.int .i32 110) rfl rfl rfl ?_
  refine DL.nil ?_
  refine TT.bk rfl ?_
  refine TT.sq rfl ?_
  refine TT.rg [0,1] [kp,kp] rfl rfl ?_
  refine DL.pu 37 (.bool false) rfl (show FPure _ _ _ (.bool ((110 : Int) == (99 : Int))) from p_eql rfl rfl rfl) ?_
  refine DL.pu 36 (.bool false) rfl (p_assign rfl rfl) ?_
  refine DL.nil ?_
  refine TT.cf rfl rfl rfl ?_
  refine TT.sq rfl ?_
  refine TT.rg [0,1] [kp,kp] rfl rfl ?_
  refine DL.pu 47 (.bool true) rfl (show FPure _ _ _ (.bool ((110 : Int) == (110 : Int))) from p_eql rfl rfl rfl) ?_
  refine DL.pu 46 (.bool true) rfl (p_assign rfl rfl) ?_
  refine DL.nil ?_
  refine TT.ct rfl rfl rfl ?_
  refine TT.sq rfl ?_
  refine TT.rg [0,1,2,3] [kp,kq,kp,kS] rfl rfl ?_
  refine DL.pu 48 (ptr b1 2) rfl (p_fieldAddr ty_f36_2 rfl rfl) ?_
  refine DL.qu 49 (.int .i64 a0.n) rfl (FImm.quiet (i_loadBoxO (I:=M3) hm_3 rfl ty_a3 rfl rfl) (fun w hc => hE3.imm hc)) ?_
  refine DL.pu 50 (ptr b4 2) rfl (p_fieldAddr ty_f36_2 rfl rfl) ?_
  refine DL.put (H':=[(some b50,.stringIter ⟨#[110]⟩ 1),(some b5,.cells (#[.bool true]) 4 (0,0)),(some b4,.cells ((Act.ce (Act.mk a0.kind 0 a0.n 0 0 0 z0 z0 zC z0 z0) nS nS nS)) 36 (0,0)),(some b2,.cells ((Act.ce (Act.mk 0 0 0 0 0 0 z0 z0 zC z0 z0) nS nS nS)) 36 (0,0))]) (i:=3) rfl (Wn.none rfl) rfl rfl (f_store (c:=(Act.ce (Act.mk a0.kind 0 0 0 0 0 z0 z0 zC z0 z0) nS nS nS)) (v:=.int .i64 a0.n) (off:=2) (j:=2) ty_s3 rfl rfl (of_decide_eq_true rfl) trivial rfl rfl rfl) (keep_none rfl) ?_
  refine DL.nil ?_
  refine TT.rg [0,1,2,3,4] [kp,kp,kq,kq,kx] rfl rfl ?_
  refine DL.mv 51 (.func (.func 94) #[] #[ptr b5 0]) rfl rfl rfl ?_
  refine DL.pu 52 (ptr b1 2) rfl (p_fieldAddr ty_f36_2 rfl rfl) ?_
  refine DL.qu 53 (.int .i64 a0.n) rfl (FImm.quiet (i_loadBoxO (I:=M3) hm_3 rfl ty_a3 rfl rfl) (fun w hc => hE3.imm hc)) ?_
  obtain ⟨t51,h52,h53⟩:=bind_some h
  refine DL.qu 54 (.bool t51) rfl (f_callR rfl rfl (args_val (vs:=[.int .i64 a0.n,.int .i64 0,.int .i64 1000000]) rfl) (fun w => enter95 _ w) (fun w hc => script_within.val h52 (M:=M3) w (hE3.ext hc) )) ?_
  refine DL.turnM (M:=M3) (E:=[(some b5,.cells (#[.bool true]) 4 (0,0))]) (R:=[(some b50,.stringIter ⟨#[110]⟩ 1),(some b4,.cells ((Act.ce (Act.mk a0.kind 0 a0.n 0 0 0 z0 z0 zC z0 z0) nS nS nS)) 36 (0,0)),(some b2,.cells ((Act.ce (Act.mk 0 0 0 0 0 0 z0 z0 zC z0 z0) nS nS nS)) 36 (0,0))]) (fun b o e => hE3.mi b o e) [1,0,2,3] rfl rfl (check94 (M:=M3) (b:=b5) (p:=t51) (q:=true)) (args:=#[.bool t51]) (caps:=#[ptr b5 0]) rfl (i:=4) rfl (Wn.none rfl) rfl rfl rfl rfl rfl rfl (args_val (vs:=[.bool t51]) rfl) (fun w => enter94 _ w) ?_
  intro _
  refine DL.nil ?_
  refine TT.inBlock ?_
  refine TT.inBlock ?_
  refine TT.inLoop ?_
  refine TT.sq rfl ?_
  refine TT.rg [0,1] [kx,kp] rfl rfl ?_
  refine DL.chrE (j:=1) rfl rfl rfl rfl rfl rfl (by decide) rfl rfl ?_
  refine DL.pu 18 (.bool false) rfl (p_extract rfl rfl rfl) ?_
  refine DL.nil ?_
  refine TT.sq rfl ?_
  refine TT.cf rfl rfl rfl ?_
  refine TT.exit rfl ?_
  refine TT.sq rfl ?_
  refine TT.rgD [0,1,2,3] [0,0,1,7] [(.look,some 2),(.look,some 0),(.store,some 3),kp] rfl mixed (by kernel_rfl) ?_
  intro w54 hl54 hj54 hz54
  refine DL.look (v:=.agg (Act.ce (Act.mk a0.kind 0 a0.n 0 0 0 z0 z0 zC z0 z0) nS nS nS)) (x:=2) (b:=b4) (i:=0) rfl (Wn.none rfl) rfl rfl rfl rfl rfl (List.mem_of_getElem? (i:=2) rfl) (b_loadA ty_a36 ty_s36 rfl rfl rfl) ?_
  refine DL.look (v:=.bool (true && t51)) (x:=0) (b:=b5) (i:=1) rfl (Wn.none rfl) rfl rfl rfl rfl rfl (List.mem_of_getElem? (i:=0) rfl) (b_load ty_a4 rfl rfl rfl) ?_
  refine DL.put (H':=[(some b5,.cells (#[.bool (true && t51)]) 4 (0,0)),(some b50,.stringIter ⟨#[110]⟩ 1),(some b4,.cells ((Act.ce (Act.mk a0.kind 0 a0.n 0 0 0 z0 z0 zC z0 z0) nS nS nS)) 36 (0,0)),(some b2,.cells ((Act.ce (Act.mk a0.kind 0 a0.n 0 0 0 z0 z0 zC z0 z0) nS nS nS)) 36 (0,0))]) (i:=2) rfl (Wn.none rfl) rfl rfl (f_storeA (j:=3) ty_s36 rfl rfl rfl (act_one (sl_one (RowV.sl (IntRow.nil .u8 M3))) (sl_one (RowV.sl (IntRow.nil .u8 M3))) (sl_one (RowV.sl (IntRow.nil .i64 M3)))) rfl rfl rfl) (keep_set (j:=3) hj54 rfl rfl rfl) ?_
  refine DL.pu 5 (.bool (true && t51)) rfl (p_assign rfl rfl) ?_
  refine DL.nil' hl54 ?_
  simp only [Option.some.injEq,Prod.mk.injEq] at h53
  obtain ⟨rfl,rfl⟩:=h53
  exact retF (rs:=[.cell 4 36,.tmp 5]) (vs:=[.agg (Act.ce (Act.mk a0.kind 0 a0.n 0 0 0 z0 z0 zC z0 z0) nS nS nS),.bool (true && t51)]) (nS,nS,nS) hE3 Tryz.func60 rfl rfl rfl (res_cons (ResV.cell (j:=3) ty_a36 ty_s36 rfl rfl rfl) (res_cons (ResV.tmp rfl) res_nil)) ⟨(IntRow.nil .u8 M3),(IntRow.nil .u8 M3),(IntRow.nil .i64 M3)⟩
 replace h:=(if_neg (by simpa using hs6_8)).symm.trans h
 by_cases hs6_9 : a1 = [112]
 ·
  subst hs6_9
  replace h:=(if_pos (by decide)).symm.trans h
  refine DL.keep (X:=Nat) (u:=fun b => ptr b 0) (H':=fun b => (some b,.stringIter ⟨#[112]⟩ 0) :: [(some b5,.cells (#[.bool true]) 4 (0,0)),(some b4,.cells ((Act.ce (Act.mk a0.kind 0 0 0 0 0 z0 z0 zC z0 z0) nS nS nS)) 36 (0,0)),(some b2,.cells ((Act.ce (Act.mk 0 0 0 0 0 0 z0 z0 zC z0 z0) nS nS nS)) 36 (0,0))]) (fun _ p hp => List.mem_cons_of_mem _ hp) (i:=1) rfl (Wn.none rfl) rfl rfl rfl (f_rangeText (s:=⟨#[112]⟩) (by kernel_rfl : Tryz.prog.underlying 9 = some .string) rfl rfl) ?_
  intro b55
  refine DL.nil ?_
  refine TT.bk rfl ?_
  refine TT.lp rfl ?_
  refine TT.sq rfl ?_
  refine TT.rg [0,1] [kx,kp] rfl rfl ?_
  refine DL.chr (j:=0) (c:=112) (wd:=1) rfl rfl rfl rfl rfl rfl (by decide) (by kernel_rfl) rfl rfl ?_
  refine DL.pu 18 (.bool true) rfl (p_extract rfl rfl rfl) ?_
  refine DL.nil ?_
  refine TT.sq rfl ?_
  refine TT.ct rfl rfl rfl ?_
  refine TT.skip ?_
  refine TT.bk rfl ?_
  refine TT.sq rfl ?_
  refine TT.rg [0,1] [kp,kp] rfl rfl ?_
  refine DL.pu 19 (.int .i32 112) rfl (p_extract rfl rfl rfl) ?_
  refine DL.pu 10 (.int .i32 112) rfl (p_assign rfl rfl) ?_
  refine DL.nil ?_
  refine TT.sq rfl ?_
  refine TT.rg [0] [kp] rfl rfl ?_
  refine DL.mv 20 (.int .i32 112) rfl rfl rfl ?_
  refine DL.nil ?_
  refine TT.bk rfl ?_
  refine TT.sq rfl ?_
  refine TT.rg [0,1] [kp,kp] rfl rfl ?_
  refine DL.pu 37 (.bool false) rfl (show FPure _ _ _ (.bool ((112 : Int) == (99 : Int))) from p_eql rfl rfl rfl) ?_
  refine DL.pu 36 (.bool false) rfl (p_assign rfl rfl) ?_
  refine DL.nil ?_
  refine TT.cf rfl rfl rfl ?_
  refine TT.sq rfl ?_
  refine TT.rg [0,1] [kp,kp] rfl rfl ?_
  refine DL.pu 47 (.bool false) rfl (show FPure _ _ _ (.bool ((112 : Int) == (110 : Int))) from p_eql rfl rfl rfl) ?_
  refine DL.pu 46 (.bool false) rfl (p_assign rfl rfl) ?_
  refine DL.nil ?_
  refine TT.cf rfl rfl rfl ?_
  refine TT.sq rfl ?_
  refine TT.rg [0,1] [kp,kp] rfl rfl ?_
  refine DL.pu 57 (.bool false) rfl (show FPure _ _ _ (.bool ((112 : Int) == (97 : Int))) from p_eql rfl rfl rfl) ?_
  refine DL.pu 56 (.bool false) rfl (p_assign rfl rfl) ?_
  refine DL.nil ?_
  refine TT.cf rfl rfl rfl ?_
  refine TT.sq rfl ?_
  refine TT.rg [0,1] [kp,kp] rfl rfl ?_
  refine DL.pu 67 (.bool false) rfl (show FPure _ _ _ (.bool ((112 : Int) == (98 : Int))) from p_eql rfl rfl rfl) ?_
  refine DL.pu 66 (.bool false) rfl (p_assign rfl rfl) ?_
  refine DL.nil ?_
  refine TT.cf rfl rfl rfl ?_
  refine TT.sq rfl ?_
  refine TT.rg [0,1] [kp,kp] rfl rfl ?_
  refine DL.pu 72 (.bool false) rfl (show FPure _ _ _ (.bool ((112 : Int) == (116 : Int))) from p_eql rfl rfl rfl) ?_
  refine DL.pu 71 (.bool false) rfl (p_assign rfl rfl) ?_
  refine DL.nil ?_
  refine TT.cf rfl rfl rfl ?_
  refine TT.sq rfl ?_
  refine TT.rg [0,1] [kp,kp] rfl rfl ?_
  refine DL.pu 82 (.bool false) rfl (show FPure _ _ _ (.bool ((112 : Int) == (102 : Int))) from p_eql rfl rfl rfl) ?_
  refine DL.pu 81 (.bool false) rfl (p_assign rfl rfl) ?_
  refine DL.nil ?_
  refine TT.cf rfl rfl rfl ?_
  refine TT.sq rfl ?_
  refine TT.rg [0,1] [kp,kp] rfl rfl ?_
  refine DL.pu 87 (.bool false) rfl (show FPure _ _ _ (.bool ((112 : Int) == (100 : Int))) from p_eql rfl rfl rfl) ?_
  refine DL.pu 86 (.bool false) rfl (p_assign rfl rfl) ?_
  refine DL.nil ?_
  refine TT.cf rfl rfl rfl ?_
  refine TT.sq rfl ?_
  refine TT.rg [0,1] [kp,kp] rfl rfl ?_
  refine DL.pu 92 (.bool false) rfl (show FPure _ _ _ (.bool ((112 : Int) == (109 : Int))) from p_eql rfl rfl rfl) ?_
  refine DL.pu 91 (.bool false) rfl (p_assign rfl rfl) ?_
  refine DL.nil ?_
  refine TT.cf rfl rfl rfl ?_
  refine TT.sq rfl ?_
  refine TT.rg [0,1] [kp,kp] rfl rfl ?_
  refine DL.pu 102 (.bool false) rfl (show FPure _ _ _ (.bool ((112 : Int) == (121 : Int))) from p_eql rfl rfl rfl) ?_
  refine DL.pu 101 (.bool false) rfl (p_assign rfl rfl) ?_
  refine DL.nil ?_
  refine TT.cf rfl rfl rfl ?_
  refine TT.sq rfl ?_
  refine TT.rg [0,1,2,3] [kp,kq,kp,kS] rfl rfl ?_
  refine DL.pu 21 (ptr b1 110) rfl (p_fieldAddr ty_f36_10 rfl rfl) ?_
  refine DL.qu 22 (a0_110) rfl (FImm.quiet (i_loadBoxO (I:=M3) hm_3 rfl ty_a34 rfl rfl) (fun w hc => hE3.imm hc)) ?_
  refine DL.pu 23 (ptr b4 110) rfl (p_fieldAddr ty_f36_10 rfl rfl) ?_
  refine DL.put (H':=[(some b55,.stringIter ⟨#[112]⟩ 1),(some b5,.cells (#[.bool true]) 4 (0,0)),(some b4,.cells ((Act.ce (Act.mk a0.kind 0 0 0 0 0 z0 z0 zC z0 a0.picks) nS nS a0_110)) 36 (0,0)),(some b2,.cells ((Act.ce (Act.mk 0 0 0 0 0 0 z0 z0 zC z0 z0) nS nS nS)) 36 (0,0))]) (i:=3) rfl (Wn.none rfl) rfl rfl (f_store (c:=(Act.ce (Act.mk a0.kind 0 0 0 0 0 z0 z0 zC z0 z0) nS nS nS)) (v:=a0_110) (off:=110) (j:=2) ty_s34 rfl (sl_cells (RowV.sl (IntRow.mono hr_a0_110 hx3))) (of_decide_eq_true rfl) (sl_one (RowV.sl (IntRow.mono hr_a0_110 hx3))) rfl rfl rfl) (keep_none rfl) ?_
  refine DL.nil ?_
  refine TT.rg [0,1,2,3,4,5,6,7,8,9,10,11] [kp,kp,kq,kp,kp,kp,kp,kq,kq,kp,kp,kx] rfl rfl ?_
  refine DL.mv 24 (.func (.func 94) #[] #[ptr b5 0]) rfl rfl rfl ?_
  refine DL.pu 25 (ptr b1 110) rfl (p_fieldAddr ty_f36_10 rfl rfl) ?_
  refine DL.qu 26 (a0_110) rfl (FImm.quiet (i_loadBoxO (I:=M3) hm_3 rfl ty_a34 rfl rfl) (fun w hc => hE3.imm hc)) ?_
  refine DL.pu 27 (.int .i64 (a0.picks.length : Int)) rfl (p_slLen ty_u34 (RowV.sl (IntRow.mono hr_a0_110 hx3)) rfl rfl) ?_
  refine DL.pu 28 (.bool (decide ((a0.picks.length : Int) ≤ 64))) rfl (p_leq rfl rfl rfl) ?_
  refine DL.mv 29 (.bool (decide ((a0.picks.length : Int) ≤ 64))) rfl rfl rfl ?_
  obtain ⟨q57,h58,h59⟩:=bind_some h
  refine DL.cut [(2,ptr b1 0),(4,ptr b2 0),(6,ptr b4 0),(7,ptr b5 0),(8,.func (.func 94) #[] #[ptr b5 0]),(16,ptr b55 0),(24,.func (.func 94) #[] #[ptr b5 0]),(34,.bool q57)] [11] ?_ (fun J60 => ?_)
  ·
   refine DL.turnM (M:=M3) (E:=[(some b5,.cells (#[.bool true]) 4 (0,0))]) (R:=[(some b55,.stringIter ⟨#[112]⟩ 1),(some b4,.cells ((Act.ce (Act.mk a0.kind 0 0 0 0 0 z0 z0 zC z0 a0.picks) nS nS a0_110)) 36 (0,0)),(some b2,.cells ((Act.ce (Act.mk 0 0 0 0 0 0 z0 z0 zC z0 z0) nS nS nS)) 36 (0,0))]) (fun b o e => hE3.mi b o e) [1,0,2,3] rfl rfl (check94 (M:=M3) (b:=b5) (p:=q57) (q:=true)) (args:=#[.bool q57]) (caps:=#[ptr b5 0]) rfl (i:=11) rfl (Wn.none rfl) rfl rfl rfl rfl rfl rfl (args_val (vs:=[.bool q57]) rfl) (fun w => enter94 _ w) ?_
   intro _
   refine DL.nil ?_
   refine TT.inBlock ?_
   refine TT.inBlock ?_
   refine TT.inLoop ?_
   refine TT.sq rfl ?_
   refine TT.rg [0,1] [kx,kp] rfl rfl ?_
   refine DL.chrE (j:=1) rfl rfl rfl rfl rfl rfl (by decide) rfl rfl ?_
   refine DL.pu 18 (.bool false) rfl (p_extract rfl rfl rfl) ?_
   refine DL.nil ?_
   refine TT.sq rfl ?_
   refine TT.cf rfl rfl rfl ?_
   refine TT.exit rfl ?_
   refine TT.sq rfl ?_
   refine TT.rgD [0,1,2,3] [0,0,1,7] [(.look,some 2),(.look,some 0),(.store,some 3),kp] rfl mixed (by kernel_rfl) ?_
   intro w67 hl67 hj67 hz67
   refine DL.look (v:=.agg (Act.ce (Act.mk a0.kind 0 0 0 0 0 z0 z0 zC z0 a0.picks) nS nS a0_110)) (x:=2) (b:=b4) (i:=0) rfl (Wn.none rfl) rfl rfl rfl rfl rfl (List.mem_of_getElem? (i:=2) rfl) (b_loadA ty_a36 ty_s36 rfl rfl rfl) ?_
   refine DL.look (v:=.bool (true && q57)) (x:=0) (b:=b5) (i:=1) rfl (Wn.none rfl) rfl rfl rfl rfl rfl (List.mem_of_getElem? (i:=0) rfl) (b_load ty_a4 rfl rfl rfl) ?_
   refine DL.put (H':=[(some b5,.cells (#[.bool (true && q57)]) 4 (0,0)),(some b55,.stringIter ⟨#[112]⟩ 1),(some b4,.cells ((Act.ce (Act.mk a0.kind 0 0 0 0 0 z0 z0 zC z0 a0.picks) nS nS a0_110)) 36 (0,0)),(some b2,.cells ((Act.ce (Act.mk a0.kind 0 0 0 0 0 z0 z0 zC z0 a0.picks) nS nS a0_110)) 36 (0,0))]) (i:=2) rfl (Wn.none rfl) rfl rfl (f_storeA (j:=3) ty_s36 rfl rfl rfl (act_one (sl_one (RowV.sl (IntRow.nil .u8 M3))) (sl_one (RowV.sl (IntRow.nil .u8 M3))) (sl_one (RowV.sl (IntRow.mono hr_a0_110 hx3)))) rfl rfl rfl) (keep_set (j:=3) hj67 rfl rfl rfl) ?_
   refine DL.pu 5 (.bool (true && q57)) rfl (p_assign rfl rfl) ?_
   refine DL.nil' hl67 ?_
   simp only [Option.some.injEq,Prod.mk.injEq] at h59
   obtain ⟨rfl,rfl⟩:=h59
   exact retF (rs:=[.cell 4 36,.tmp 5]) (vs:=[.agg (Act.ce (Act.mk a0.kind 0 0 0 0 0 z0 z0 zC z0 a0.picks) nS nS a0_110),.bool (true && q57)]) (nS,nS,a0_110) hE3 Tryz.func60 rfl rfl rfl (res_cons (ResV.cell (j:=3) ty_a36 ty_s36 rfl rfl rfl) (res_cons (ResV.tmp rfl) res_nil)) ⟨(IntRow.nil .u8 M3),(IntRow.nil .u8 M3),(IntRow.mono hr_a0_110 hx3)⟩
  ·
   by_cases c61 : (decide ((a0.picks.length : Int) ≤ 64)) = true
   ·
    have h62:=ite_true c61 h58
    refine DL.pure (v:=ptr b1 110) rfl (Wn.yes c61 rfl rfl rfl rfl) rfl rfl rfl (p_fieldAddr ty_f36_10 rfl rfl) ?_
    refine DL.quiet (v:=a0_110) rfl (Wn.yes c61 rfl rfl rfl rfl) rfl rfl rfl (FImm.quiet (i_loadBoxO (I:=M3) hm_3 rfl ty_a34 rfl rfl) (fun w hc => hE3.imm hc)) ?_
    obtain ⟨t63,h64,h65⟩:=bind_some h62
    refine DL.quiet (v:=.bool t63) rfl (Wn.yes c61 rfl rfl rfl rfl) rfl rfl rfl (f_callR rfl rfl (args_val (vs:=[a0_110,.func (.func 97) #[] #[]]) rfl) (fun w => enter96 _ w) (fun w hc => cont97.val h64 (M:=M3) w (hE3.ext hc) (IntRow.mono hr_a0_110 hx3))) ?_
    refine DL.pure (v:=.bool (!t63)) rfl (Wn.yes c61 rfl rfl rfl rfl) rfl rfl rfl (p_not rfl rfl) ?_
    refine DL.pu 34 (.bool (!t63)) rfl (p_pick_t c61 rfl rfl rfl) ?_
    obtain rfl:=Option.some.inj h65
    exact DL.weak J60 (Sub.cons rfl (Sub.cons rfl (Sub.cons rfl (Sub.cons rfl (Sub.cons rfl (Sub.cons rfl (Sub.cons rfl (Sub.cons rfl (Sub.nil _)))))))))
   ·
    replace c61:=Bool.eq_false_iff.mpr c61
    have h66:=ite_false c61 h58
    refine DL.not rfl (Wn.no c61 rfl rfl rfl rfl) rfl rfl ?_
    refine DL.not rfl (Wn.no c61 rfl rfl rfl rfl) rfl rfl ?_
    refine DL.not rfl (Wn.no c61 rfl rfl rfl rfl) rfl rfl ?_
    refine DL.not rfl (Wn.no c61 rfl rfl rfl rfl) rfl rfl ?_
    refine DL.pu 34 (.bool false) rfl (p_pick_f c61 rfl rfl rfl) ?_
    obtain rfl:=Option.some.inj h66
    exact DL.weak J60 (Sub.cons rfl (Sub.cons rfl (Sub.cons rfl (Sub.cons rfl (Sub.cons rfl (Sub.cons rfl (Sub.cons rfl (Sub.cons rfl (Sub.nil _)))))))))
 replace h:=(if_neg (by simpa using hs6_9)).symm.trans h
 by_cases hs6_10 : a1 = zU
 ·
  subst hs6_10
  replace h:=(if_pos (by decide)).symm.trans h
  refine DL.keep (X:=Nat) (u:=fun b => ptr b 0) (H':=fun b => (some b,.stringIter ⟨#[]⟩ 0) :: [(some b5,.cells (#[.bool true]) 4 (0,0)),(some b4,.cells ((Act.ce (Act.mk a0.kind 0 0 0 0 0 z0 z0 zC z0 z0) nS nS nS)) 36 (0,0)),(some b2,.cells ((Act.ce (Act.mk 0 0 0 0 0 0 z0 z0 zC z0 z0) nS nS nS)) 36 (0,0))]) (fun _ p hp => List.mem_cons_of_mem _ hp) (i:=1) rfl (Wn.none rfl) rfl rfl rfl (f_rangeText (s:=⟨#[]⟩) (by kernel_rfl : Tryz.prog.underlying 9 = some .string) rfl rfl) ?_
  intro b68
  refine DL.nil ?_
  refine TT.bk rfl ?_
  refine TT.lp rfl ?_
  refine TT.sq rfl ?_
  refine TT.rg [0,1] [kx,kp] rfl rfl ?_
  refine DL.chrE (j:=0) rfl rfl rfl rfl rfl rfl (by decide) rfl rfl ?_
  refine DL.pu 18 (.bool false) rfl (p_extract rfl rfl rfl) ?_
  refine DL.nil ?_
  refine TT.sq rfl ?_
  refine TT.cf rfl rfl rfl ?_
  refine TT.exit rfl ?_
  refine TT.sq rfl ?_
  refine TT.rgD [0,1,2,3] [0,0,1,7] [(.look,some 2),(.look,some 1),(.store,some 3),kp] rfl mixed (by kernel_rfl) ?_
  intro w69 hl69 hj69 hz69
  refine DL.look (v:=.agg (Act.ce (Act.mk a0.kind 0 0 0 0 0 z0 z0 zC z0 z0) nS nS nS)) (x:=2) (b:=b4) (i:=0) rfl (Wn.none rfl) rfl rfl rfl rfl rfl (List.mem_of_getElem? (i:=2) rfl) (b_loadA ty_a36 ty_s36 rfl rfl rfl) ?_
  refine DL.look (v:=.bool true) (x:=1) (b:=b5) (i:=1) rfl (Wn.none rfl) rfl rfl rfl rfl rfl (List.mem_of_getElem? (i:=1) rfl) (b_load ty_a4 rfl rfl rfl) ?_
  refine DL.put (H':=[(some b68,.stringIter ⟨#[]⟩ 0),(some b5,.cells (#[.bool true]) 4 (0,0)),(some b4,.cells ((Act.ce (Act.mk a0.kind 0 0 0 0 0 z0 z0 zC z0 z0) nS nS nS)) 36 (0,0)),(some b2,.cells ((Act.ce (Act.mk a0.kind 0 0 0 0 0 z0 z0 zC z0 z0) nS nS nS)) 36 (0,0))]) (i:=2) rfl (Wn.none rfl) rfl rfl (f_storeA (j:=3) ty_s36 rfl rfl rfl (act_one (sl_one (RowV.sl (IntRow.nil .u8 M3))) (sl_one (RowV.sl (IntRow.nil .u8 M3))) (sl_one (RowV.sl (IntRow.nil .i64 M3)))) rfl rfl rfl) (keep_set (j:=3) hj69 rfl rfl rfl) ?_
  refine DL.pu 5 (.bool true) rfl (p_assign rfl rfl) ?_
  refine DL.nil' hl69 ?_
  simp only [Option.some.injEq,Prod.mk.injEq] at h
  obtain ⟨rfl,rfl⟩:=h
  exact retF (rs:=[.cell 4 36,.tmp 5]) (vs:=[.agg (Act.ce (Act.mk a0.kind 0 0 0 0 0 z0 z0 zC z0 z0) nS nS nS),.bool true]) (nS,nS,nS) hE3 Tryz.func60 rfl rfl rfl (res_cons (ResV.cell (j:=3) ty_a36 ty_s36 rfl rfl rfl) (res_cons (ResV.tmp rfl) res_nil)) ⟨(IntRow.nil .u8 M3),(IntRow.nil .u8 M3),(IntRow.nil .i64 M3)⟩
 replace h:=(if_neg (by simpa using hs6_10)).symm.trans h
 by_cases hs6_11 : a1 = [110,97,98]
 ·
  subst hs6_11
  replace h:=(if_pos (by decide)).symm.trans h
  refine DL.keep (X:=Nat) (u:=fun b => ptr b 0) (H':=fun b => (some b,.stringIter ⟨#[110,97,98]⟩ 0) :: [(some b5,.cells (#[.bool true]) 4 (0,0)),(some b4,.cells ((Act.ce (Act.mk a0.kind 0 0 0 0 0 z0 z0 zC z0 z0) nS nS nS)) 36 (0,0)),(some b2,.cells ((Act.ce (Act.mk 0 0 0 0 0 0 z0 z0 zC z0 z0) nS nS nS)) 36 (0,0))]) (fun _ p hp => List.mem_cons_of_mem _ hp) (i:=1) rfl (Wn.none rfl) rfl rfl rfl (f_rangeText (s:=⟨#[110,97,98]⟩) (by kernel_rfl : Tryz.prog.underlying 9 = some .string) rfl rfl) ?_
  intro b70
  refine DL.nil ?_
  refine TT.bk rfl ?_
  refine TT.lp rfl ?_
  refine TT.sq rfl ?_
  refine TT.rg [0,1] [kx,kp] rfl rfl ?_
  refine DL.chr (j:=0) (c:=110) (wd:=1) rfl rfl rfl rfl rfl rfl (by decide) (by kernel_rfl) rfl rfl ?_
  refine DL.pu 18 (.bool true) rfl (p_extract rfl rfl rfl) ?_
  refine DL.nil ?_
  refine TT.sq rfl ?_
  refine TT.ct rfl rfl rfl ?_
  refine TT.skip ?_
  refine TT.bk rfl ?_
  refine TT.sq rfl ?_
  refine TT.rg [0,1] [kp,kp] rfl rfl ?_
  refine DL.pu 19 (.int .i32 110) rfl (p_extract rfl rfl rfl) ?_
  refine DL.pu 10 (.int .i32 110) rfl (p_assign rfl rfl) ?_
  refine DL.nil ?_
  refine TT.sq rfl ?_
  refine TT.rg [0] [kp] rfl rfl ?_
  refine DL.mv 20 (.int .i32 110) rfl rfl rfl ?_
  refine DL.nil ?_
  refine TT.bk rfl ?_
  refine TT.sq rfl ?_
  refine TT.rg [0,1] [kp,kp] rfl rfl ?_
  refine DL.pu 37 (.bool false) rfl (show FPure _ _ _ (.bool ((110 : Int) == (99 : Int))) from p_eql rfl rfl rfl) ?_
  refine DL.pu 36 (.bool false) rfl (p_assign rfl rfl) ?_
  refine DL.nil ?_
  refine TT.cf rfl rfl rfl ?_
  refine TT.sq rfl ?_
  refine TT.rg [0,1] [kp,kp] rfl rfl ?_
  refine DL.pu 47 (.bool true) rfl (show FPure _ _ _ (.bool ((110 : Int) == (110 : Int))) from p_eql rfl rfl rfl) ?_
  refine DL.pu 46 (.bool true) rfl (p_assign rfl rfl) ?_
  refine DL.nil ?_
  refine TT.ct rfl rfl rfl ?_
  refine TT.sq rfl ?_
  refine TT.rg [0,1,2,3] [kp,kq,kp,kS] rfl rfl ?_
  refine DL.pu 48 (ptr b1 2) rfl (p_fieldAddr ty_f36_2 rfl rfl) ?_
  refine DL.qu 49 (.int .i64 a0.n) rfl (FImm.quiet (i_loadBoxO (I:=M3) hm_3 rfl ty_a3 rfl rfl) (fun w hc => hE3.imm hc)) ?_
  refine DL.pu 50 (ptr b4 2) rfl (p_fieldAddr ty_f36_2 rfl rfl) ?_
  refine DL.put (H':=[(some b70,.stringIter ⟨#[110,97,98]⟩ 1),(some b5,.cells (#[.bool true]) 4 (0,0)),(some b4,.cells ((Act.ce (Act.mk a0.kind 0 a0.n 0 0 0 z0 z0 zC z0 z0) nS nS nS)) 36 (0,0)),(some b2,.cells ((Act.ce (Act.mk 0 0 0 0 0 0 z0 z0 zC z0 z0) nS nS nS)) 36 (0,0))]) (i:=3) rfl (Wn.none rfl) rfl rfl (f_store (c:=(Act.ce (Act.mk a0.kind 0 0 0 0 0 z0 z0 zC z0 z0) nS nS nS)) (v:=.int .i64 a0.n) (off:=2) (j:=2) ty_s3 rfl rfl (of_decide_eq_true rfl) trivial rfl rfl rfl) (keep_none rfl) ?_
  refine DL.nil ?_
  refine TT.rg [0,1,2,3,4] [kp,kp,kq,kq,kx] rfl rfl ?_
  refine DL.mv 51 (.func (.func 94) #[] #[ptr b5 0]) rfl rfl rfl ?_
  refine DL.pu 52 (ptr b1 2) rfl (p_fieldAddr ty_f36_2 rfl rfl) ?_
  refine DL.qu 53 (.int .i64 a0.n) rfl (FImm.quiet (i_loadBoxO (I:=M3) hm_3 rfl ty_a3 rfl rfl) (fun w hc => hE3.imm hc)) ?_
  obtain ⟨t71,h72,h73⟩:=bind_some h
  refine DL.qu 54 (.bool t71) rfl (f_callR rfl rfl (args_val (vs:=[.int .i64 a0.n,.int .i64 0,.int .i64 1000000]) rfl) (fun w => enter95 _ w) (fun w hc => script_within.val h72 (M:=M3) w (hE3.ext hc) )) ?_
  refine DL.turnM (M:=M3) (E:=[(some b5,.cells (#[.bool true]) 4 (0,0))]) (R:=[(some b70,.stringIter ⟨#[110,97,98]⟩ 1),(some b4,.cells ((Act.ce (Act.mk a0.kind 0 a0.n 0 0 0 z0 z0 zC z0 z0) nS nS nS)) 36 (0,0)),(some b2,.cells ((Act.ce (Act.mk 0 0 0 0 0 0 z0 z0 zC z0 z0) nS nS nS)) 36 (0,0))]) (fun b o e => hE3.mi b o e) [1,0,2,3] rfl rfl (check94 (M:=M3) (b:=b5) (p:=t71) (q:=true)) (args:=#[.bool t71]) (caps:=#[ptr b5 0]) rfl (i:=4) rfl (Wn.none rfl) rfl rfl rfl rfl rfl rfl (args_val (vs:=[.bool t71]) rfl) (fun w => enter94 _ w) ?_
  intro _
  refine DL.nil ?_
  refine TT.inBlock ?_
  refine TT.inBlock ?_
  refine TT.inLoop ?_
  refine TT.sq rfl ?_
  refine TT.rg [0,1] [kx,kp] rfl rfl ?_
  refine DL.chr (j:=1) (c:=97) (wd:=1) rfl rfl rfl rfl rfl rfl (by decide) (by kernel_rfl) rfl rfl ?_
  refine DL.pu 18 (.bool true) rfl (p_extract rfl rfl rfl) ?_
  refine DL.nil ?_
  refine TT.sq rfl ?_
  refine TT.ct rfl rfl rfl ?_
  refine TT.skip ?_
  refine TT.bk rfl ?_
  refine TT.sq rfl ?_
  refine TT.rg [0,1] [kp,kp] rfl rfl ?_
  refine DL.pu 19 (.int .i32 97) rfl (p_extract rfl rfl rfl) ?_
  refine DL.pu 10 (.int .i32 97) rfl (p_assign rfl rfl) ?_
  refine DL.nil ?_
  refine TT.sq rfl ?_
  refine TT.rg [0] [kp] rfl rfl ?_
  refine DL.mv 20 (.int .i32 97) rfl rfl rfl ?_
  refine DL.nil ?_
  refine TT.bk rfl ?_
  refine TT.sq rfl ?_
  refine TT.rg [0,1] [kp,kp] rfl rfl ?_
  refine DL.pu 37 (.bool false) rfl (show FPure _ _ _ (.bool ((97 : Int) == (99 : Int))) from p_eql rfl rfl rfl) ?_
  refine DL.pu 36 (.bool false) rfl (p_assign rfl rfl) ?_
  refine DL.nil ?_
  refine TT.cf rfl rfl rfl ?_
  refine TT.sq rfl ?_
  refine TT.rg [0,1] [kp,kp] rfl rfl ?_
  refine DL.pu 47 (.bool false) rfl (show FPure _ _ _ (.bool ((97 : Int) == (110 : Int))) from p_eql rfl rfl rfl) ?_
  refine DL.pu 46 (.bool false) rfl (p_assign rfl rfl) ?_
  refine DL.nil ?_
  refine TT.cf rfl rfl rfl ?_
  refine TT.sq rfl ?_
  refine TT.rg [0,1] [kp,kp] rfl rfl ?_
  refine DL.pu 57 (.bool true) rfl (show FPure _ _ _ (.bool ((97 : Int) == (97 : Int))) from p_eql rfl rfl rfl) ?_
  refine DL.pu 56 (.bool true) rfl (p_assign rfl rfl) ?_
  refine DL.nil ?_
  refine TT.ct rfl rfl rfl ?_
  refine TT.sq rfl ?_
  refine TT.rg [0,1,2,3] [kp,kq,kp,kS] rfl rfl ?_
  refine DL.pu 58 (ptr b1 3) rfl (p_fieldAddr ty_f36_3 rfl rfl) ?_
  refine DL.qu 59 (.int .i64 a0.at_) rfl (FImm.quiet (i_loadBoxO (I:=M3) hm_3 rfl ty_a3 rfl rfl) (fun w hc => hE3.imm hc)) ?_
  refine DL.pu 60 (ptr b4 3) rfl (p_fieldAddr ty_f36_3 rfl rfl) ?_
  refine DL.put (H':=[(some b5,.cells (#[.bool (true && t71)]) 4 (0,0)),(some b70,.stringIter ⟨#[110,97,98]⟩ 2),(some b4,.cells ((Act.ce (Act.mk a0.kind 0 a0.n a0.at_ 0 0 z0 z0 zC z0 z0) nS nS nS)) 36 (0,0)),(some b2,.cells ((Act.ce (Act.mk 0 0 0 0 0 0 z0 z0 zC z0 z0) nS nS nS)) 36 (0,0))]) (i:=3) rfl (Wn.none rfl) rfl rfl (f_store (c:=(Act.ce (Act.mk a0.kind 0 a0.n 0 0 0 z0 z0 zC z0 z0) nS nS nS)) (v:=.int .i64 a0.at_) (off:=3) (j:=2) ty_s3 rfl rfl (of_decide_eq_true rfl) trivial rfl rfl rfl) (keep_none rfl) ?_
  refine DL.nil ?_
  refine TT.rg [0,1,2,3,4] [kp,kp,kq,kq,kx] rfl rfl ?_
  refine DL.mv 61 (.func (.func 94) #[] #[ptr b5 0]) rfl rfl rfl ?_
  refine DL.pu 62 (ptr b1 3) rfl (p_fieldAddr ty_f36_3 rfl rfl) ?_
  refine DL.qu 63 (.int .i64 a0.at_) rfl (FImm.quiet (i_loadBoxO (I:=M3) hm_3 rfl ty_a3 rfl rfl) (fun w hc => hE3.imm hc)) ?_
  obtain ⟨t74,h75,h76⟩:=bind_some h73
  refine DL.qu 64 (.bool t74) rfl (f_callR rfl rfl (args_val (vs:=[.int .i64 a0.at_,.int .i64 0,.int .i64 1000000]) rfl) (fun w => enter95 _ w) (fun w hc => script_within.val h75 (M:=M3) w (hE3.ext hc) )) ?_
  refine DL.turnM (M:=M3) (E:=[(some b5,.cells (#[.bool (true && t71)]) 4 (0,0))]) (R:=[(some b70,.stringIter ⟨#[110,97,98]⟩ 2),(some b4,.cells ((Act.ce (Act.mk a0.kind 0 a0.n a0.at_ 0 0 z0 z0 zC z0 z0) nS nS nS)) 36 (0,0)),(some b2,.cells ((Act.ce (Act.mk 0 0 0 0 0 0 z0 z0 zC z0 z0) nS nS nS)) 36 (0,0))]) (fun b o e => hE3.mi b o e) [0,1,2,3] rfl rfl (check94 (M:=M3) (b:=b5) (p:=t74) (q:=(true && t71))) (args:=#[.bool t74]) (caps:=#[ptr b5 0]) rfl (i:=4) rfl (Wn.none rfl) rfl rfl rfl rfl rfl rfl (args_val (vs:=[.bool t74]) rfl) (fun w => enter94 _ w) ?_
  intro _
  refine DL.nil ?_
  refine TT.inBlock ?_
  refine TT.inBlock ?_
  refine TT.inLoop ?_
  refine TT.sq rfl ?_
  refine TT.rg [0,1] [kx,kp] rfl rfl ?_
  refine DL.chr (j:=1) (c:=98) (wd:=1) rfl rfl rfl rfl rfl rfl (by decide) (by kernel_rfl) rfl rfl ?_
  refine DL.pu 18 (.bool true) rfl (p_extract rfl rfl rfl) ?_
  refine DL.nil ?_
  refine TT.sq rfl ?_
  refine TT.ct rfl rfl rfl ?_
  refine TT.skip ?_
  refine TT.bk rfl ?_
  refine TT.sq rfl ?_
  refine TT.rg [0,1] [kp,kp] rfl rfl ?_
  refine DL.pu 19 (.int .i32 98) rfl (p_extract rfl rfl rfl) ?_
  refine DL.pu 10 (.int .i32 98) rfl (p_assign rfl rfl) ?_
  refine DL.nil ?_
  refine TT.sq rfl ?_
  refine TT.rg [0] [kp] rfl rfl ?_
  refine DL.mv 20 (.int .i32 98) rfl rfl rfl ?_
  refine DL.nil ?_
  refine TT.bk rfl ?_
  refine TT.sq rfl ?_
  refine TT.rg [0,1] [kp,kp] rfl rfl ?_
  refine DL.pu 37 (.bool false) rfl (show FPure _ _ _ (.bool ((98 : Int) == (99 : Int))) from p_eql rfl rfl rfl) ?_
  refine DL.pu 36 (.bool false) rfl (p_assign rfl rfl) ?_
  refine DL.nil ?_
  refine TT.cf rfl rfl rfl ?_
  refine TT.sq rfl ?_
  refine TT.rg [0,1] [kp,kp] rfl rfl ?_
  refine DL.pu 47 (.bool false) rfl (show FPure _ _ _ (.bool ((98 : Int) == (110 : Int))) from p_eql rfl rfl rfl) ?_
  refine DL.pu 46 (.bool false) rfl (p_assign rfl rfl) ?_
  refine DL.nil ?_
  refine TT.cf rfl rfl rfl ?_
  refine TT.sq rfl ?_
  refine TT.rg [0,1] [kp,kp] rfl rfl ?_
  refine DL.pu 57 (.bool false) rfl (show FPure _ _ _ (.bool ((98 : Int) == (97 : Int))) from p_eql rfl rfl rfl) ?_
  refine DL.pu 56 (.bool false) rfl (p_assign rfl rfl) ?_
  refine DL.nil ?_
  refine TT.cf rfl rfl rfl ?_
  refine TT.sq rfl ?_
  refine TT.rg [0,1] [kp,kp] rfl rfl ?_
  refine DL.pu 67 (.bool true) rfl (show FPure _ _ _ (.bool ((98 : Int) == (98 : Int))) from p_eql rfl rfl rfl) ?_
  refine DL.pu 66 (.bool true) rfl (p_assign rfl rfl) ?_
  refine DL.nil ?_
  refine TT.ct rfl rfl rfl ?_
  refine TT.rg [0,1,2,3] [kp,kq,kp,kS] rfl rfl ?_
  refine DL.pu 68 (ptr b1 4) rfl (p_fieldAddr ty_f36_4 rfl rfl) ?_
  refine DL.qu 69 (.int .u8 a0.byt) rfl (FImm.quiet (i_loadBoxO (I:=M3) hm_3 rfl ty_a5 rfl rfl) (fun w hc => hE3.imm hc)) ?_
  refine DL.pu 70 (ptr b4 4) rfl (p_fieldAddr ty_f36_4 rfl rfl) ?_
  refine DL.put (H':=[(some b5,.cells (#[.bool ((true && t71) && t74)]) 4 (0,0)),(some b70,.stringIter ⟨#[110,97,98]⟩ 3),(some b4,.cells ((Act.ce (Act.mk a0.kind 0 a0.n a0.at_ a0.byt 0 z0 z0 zC z0 z0) nS nS nS)) 36 (0,0)),(some b2,.cells ((Act.ce (Act.mk 0 0 0 0 0 0 z0 z0 zC z0 z0) nS nS nS)) 36 (0,0))]) (i:=3) rfl (Wn.none rfl) rfl rfl (f_store (c:=(Act.ce (Act.mk a0.kind 0 a0.n a0.at_ 0 0 z0 z0 zC z0 z0) nS nS nS)) (v:=.int .u8 a0.byt) (off:=4) (j:=2) ty_s5 rfl rfl (of_decide_eq_true rfl) trivial rfl rfl rfl) (keep_none rfl) ?_
  refine DL.nil ?_
  refine TT.inBlock ?_
  refine TT.inBlock ?_
  refine TT.inLoop ?_
  refine TT.sq rfl ?_
  refine TT.rg [0,1] [kx,kp] rfl rfl ?_
  refine DL.chrE (j:=1) rfl rfl rfl rfl rfl rfl (by decide) rfl rfl ?_
  refine DL.pu 18 (.bool false) rfl (p_extract rfl rfl rfl) ?_
  refine DL.nil ?_
  refine TT.sq rfl ?_
  refine TT.cf rfl rfl rfl ?_
  refine TT.exit rfl ?_
  refine TT.sq rfl ?_
  refine TT.rgD [0,1,2,3] [0,0,1,7] [(.look,some 2),(.look,some 0),(.store,some 3),kp] rfl mixed (by kernel_rfl) ?_
  intro w77 hl77 hj77 hz77
  refine DL.look (v:=.agg (Act.ce (Act.mk a0.kind 0 a0.n a0.at_ a0.byt 0 z0 z0 zC z0 z0) nS nS nS)) (x:=2) (b:=b4) (i:=0) rfl (Wn.none rfl) rfl rfl rfl rfl rfl (List.mem_of_getElem? (i:=2) rfl) (b_loadA ty_a36 ty_s36 rfl rfl rfl) ?_
  refine DL.look (v:=.bool ((true && t71) && t74)) (x:=0) (b:=b5) (i:=1) rfl (Wn.none rfl) rfl rfl rfl rfl rfl (List.mem_of_getElem? (i:=0) rfl) (b_load ty_a4 rfl rfl rfl) ?_
  refine DL.put (H':=[(some b5,.cells (#[.bool ((true && t71) && t74)]) 4 (0,0)),(some b70,.stringIter ⟨#[110,97,98]⟩ 3),(some b4,.cells ((Act.ce (Act.mk a0.kind 0 a0.n a0.at_ a0.byt 0 z0 z0 zC z0 z0) nS nS nS)) 36 (0,0)),(some b2,.cells ((Act.ce (Act.mk a0.kind 0 a0.n a0.at_ a0.byt 0 z0 z0 zC z0 z0) nS nS nS)) 36 (0,0))]) (i:=2) rfl (Wn.none rfl) rfl rfl (f_storeA (j:=3) ty_s36 rfl rfl rfl (act_one (sl_one (RowV.sl (IntRow.nil .u8 M3))) (sl_one (RowV.sl (IntRow.nil .u8 M3))) (sl_one (RowV.sl (IntRow.nil .i64 M3)))) rfl rfl rfl) (keep_set (j:=3) hj77 rfl rfl rfl) ?_
  refine DL.pu 5 (.bool ((true && t71) && t74)) rfl (p_assign rfl rfl) ?_
  refine DL.nil' hl77 ?_
  simp only [Option.some.injEq,Prod.mk.injEq] at h76
  obtain ⟨rfl,rfl⟩:=h76
  exact retF (rs:=[.cell 4 36,.tmp 5]) (vs:=[.agg (Act.ce (Act.mk a0.kind 0 a0.n a0.at_ a0.byt 0 z0 z0 zC z0 z0) nS nS nS),.bool ((true && t71) && t74)]) (nS,nS,nS) hE3 Tryz.func60 rfl rfl rfl (res_cons (ResV.cell (j:=3) ty_a36 ty_s36 rfl rfl rfl) (res_cons (ResV.tmp rfl) res_nil)) ⟨(IntRow.nil .u8 M3),(IntRow.nil .u8 M3),(IntRow.nil .i64 M3)⟩
 replace h:=(if_neg (by simpa using hs6_11)).symm.trans h
 cases h

end Go.Proofs.YthldgjbmjgjogaaGreatDoor
