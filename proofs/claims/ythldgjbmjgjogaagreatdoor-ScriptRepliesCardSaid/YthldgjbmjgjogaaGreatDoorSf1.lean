import Derived.Test.YthldgjbmjgjogaaGreatDoorSnKy
namespace Go.Proofs.YthldgjbmjgjogaaGreatDoor
open Go Go.HW Go.RowKit
set_option linter.unusedVariables false
set_option linter.unusedSimpArgs false

theorem enter83 (args : Array Value) (w : World) : (callFunc 83 args).run Tryz.prog w = .ok (.enter 83 args) w:=by kernel_rfl
theorem enter84 (args : Array Value) (w : World) : (callFunc 84 args).run Tryz.prog w = .ok (.enter 84 args) w:=by kernel_rfl
theorem enter52 (args : Array Value) (w : World) : (callFunc 52 args).run Tryz.prog w = .ok (.enter 52 args) w:=by kernel_rfl

/-! ### escutcheon/script.take: function 36 -/
noncomputable def B36 : Code:=bodyOf Tryz.f36
def script_take.f (a0 : Int) (a1 : List UInt8) (a2 : List (List UInt8)) : Option (Act):=if (a1 == [110,100]) = true then ((script_number.f (a2.headD [])).bind fun t7 => (script_keyOf.f ((a2.tail).headD [])).bind fun t11 => some (Act.mk a0 0 t7 0 0 0 z0 (t11) zC z0 z0)) else (none)
set_option maxRecDepth 20000 in
theorem script_take.ok {a0 : Int} {a1 : List UInt8} {a2 : List (List UInt8)} {a2_v : Value} {r : Act} (h : script_take.f a0 a1 a2 = some r) {M : Mem} (w : World) (hM : Ext M (heapOf w)) (hG : GlobE M) (hr_a2 : RowS Sh.str M a2_v a2) : Calls Tryz.prog 36 #[.int .i64 a0,str a1,a2_v] w (PostF (G:=Value × Value × Value) (fun g => .agg (Act.ce r (g.1) (g.2.1) (g.2.2))) (fun g M_ => (IntRow M_ .u8 (g.1) r.cmd.data) ∧ (IntRow M_ .u8 (g.2.1) r.bytes) ∧ (IntRow M_ .i64 (g.2.2) r.picks)) M w):=by
 unfold script_take.f at h
 have hE:=Env.start hM
 refine calls_of_TT (N:=98) (S:=[(0,.int .i64 a0),(1,str a1),(2,a2_v)]) (c:=B36) Tryz.func36 rfl rfl rfl (by simp) ?_
 show TT _ _ _ _ _ _ [.code (sub [] B36)] _ _
 refine TT.sq rfl ?_
 refine TT.rg [0,1] [kA,kA] rfl rfl ?_
 refine DL.new (ob:=.cells (#[a2_v]) 46) (mk:=fun b => ptr b 0) (i:=0) rfl (Wn.none rfl) rfl rfl rfl (f_boxSl (v:=a2_v) (sl_cells (RowS.sl hr_a2)) rfl rfl) ?_
 intro b1 hb1
 refine DL.new (ob:=.cells ((Act.ce (Act.mk 0 0 0 0 0 0 z0 z0 zC z0 z0) nS nS nS)) 36) (mk:=fun b => ptr b 0) (i:=1) rfl (Wn.none rfl) rfl rfl rfl (f_alloc ty_z36 rfl) ?_
 intro b2 hb2
 refine DL.nil ?_
 refine TT.sq rfl ?_
 refine TT.rg [0,1,2,3] [kp,kp,kA,kS] rfl rfl ?_
 refine DL.mv 13 (.int .i64 a0) rfl rfl rfl ?_
 refine DL.pu 14 (.agg (Act.ce (Act.mk a0 0 0 0 0 0 z0 z0 zC z0 z0) nS nS nS)) rfl (p_build (vs:=[(0,.int .i64 a0)]) (fun w => by kernel_rfl) rfl rfl) ?_
 refine DL.new (ob:=.cells ((Act.ce (Act.mk 0 0 0 0 0 0 z0 z0 zC z0 z0) nS nS nS)) 36) (mk:=fun b => ptr b 0) (i:=2) rfl (Wn.none rfl) rfl rfl rfl (f_alloc ty_z36 rfl) ?_
 intro b3 hb3
 refine DL.put (H':=[(some b3,.cells ((Act.ce (Act.mk a0 0 0 0 0 0 z0 z0 zC z0 z0) nS nS nS)) 36 (0,0)),(some b2,.cells ((Act.ce (Act.mk 0 0 0 0 0 0 z0 z0 zC z0 z0) nS nS nS)) 36 (0,0)),(some b1,.cells (#[a2_v]) 46 (0,0))]) (i:=3) rfl (Wn.none rfl) rfl rfl (f_storeA (j:=0) ty_s36 rfl rfl rfl (act_one (sl_one (RowV.sl (IntRow.nil .u8 M))) (sl_one (RowV.sl (IntRow.nil .u8 M))) (sl_one (RowV.sl (IntRow.nil .i64 M)))) rfl rfl rfl) (keep_none rfl) ?_
 refine DL.nil ?_
 refine TT.sq rfl ?_
 refine TT.rg [0,1] [kp,kp] rfl rfl ?_
 refine DL.pu 15 (.func (.func 83) #[] #[ptr b1 0]) rfl (p_makeFunc rfl (args_val (vs:=[ptr b1 0]) rfl)) ?_
 refine DL.pu 8 (.func (.func 83) #[] #[ptr b1 0]) rfl (p_assign rfl rfl) ?_
 refine DL.nil ?_
 refine TT.sq rfl ?_
 refine TT.sq rfl ?_
 refine TT.rg [0,1] [kp,kk] rfl rfl ?_
 refine DL.mv 16 (str a1) rfl rfl rfl ?_
 by_cases hs4_0 : a1 = [110,100]
 ·
  subst hs4_0
  replace h:=(if_pos (by decide)).symm.trans h
  refine DL.keep (X:=Nat) (u:=fun b => ptr b 0) (H':=fun b => (some b,.stringIter ⟨#[110,100]⟩ 0) :: [(some b3,.cells ((Act.ce (Act.mk a0 0 0 0 0 0 z0 z0 zC z0 z0) nS nS nS)) 36 (0,0)),(some b2,.cells ((Act.ce (Act.mk 0 0 0 0 0 0 z0 z0 zC z0 z0) nS nS nS)) 36 (0,0)),(some b1,.cells (#[a2_v]) 46 (0,0))]) (fun _ p hp => List.mem_cons_of_mem _ hp) (i:=1) rfl (Wn.none rfl) rfl rfl rfl (f_rangeText (s:=⟨#[110,100]⟩) (by kernel_rfl : Tryz.prog.underlying 9 = some .string) rfl rfl) ?_
  intro b5
  refine DL.nil ?_
  refine TT.bk rfl ?_
  refine TT.lp rfl ?_
  refine TT.sq rfl ?_
  refine TT.rg [0,1] [kx,kp] rfl rfl ?_
  refine DL.chr (j:=0) (c:=110) (wd:=1) rfl rfl rfl rfl rfl rfl (by decide) (by kernel_rfl) rfl rfl ?_
  refine DL.pu 19 (.bool true) rfl (p_extract rfl rfl rfl) ?_
  refine DL.nil ?_
  refine TT.sq rfl ?_
  refine TT.ct rfl rfl rfl ?_
  refine TT.skip ?_
  refine TT.bk rfl ?_
  refine TT.sq rfl ?_
  refine TT.rg [0,1] [kp,kp] rfl rfl ?_
  refine DL.pu 20 (.int .i32 110) rfl (p_extract rfl rfl rfl) ?_
  refine DL.pu 10 (.int .i32 110) rfl (p_assign rfl rfl) ?_
  refine DL.nil ?_
  refine TT.sq rfl ?_
  refine TT.rg [0] [kp] rfl rfl ?_
  refine DL.mv 21 (.int .i32 110) rfl rfl rfl ?_
  refine DL.nil ?_
  refine TT.bk rfl ?_
  refine TT.sq rfl ?_
  refine TT.rg [0,1] [kp,kp] rfl rfl ?_
  refine DL.pu 37 (.bool false) rfl (show FPure _ _ _ (.bool ((110 : Int) == (99 : Int))) from p_eql rfl rfl rfl) ?_
  refine DL.pu 36 (.bool false) rfl (p_assign rfl rfl) ?_
  refine DL.nil ?_
  refine TT.cf rfl rfl rfl ?_
  refine TT.sq rfl ?_
  refine TT.rg [0,1] [kp,kp] rfl rfl ?_
  refine DL.pu 43 (.bool true) rfl (show FPure _ _ _ (.bool ((110 : Int) == (110 : Int))) from p_eql rfl rfl rfl) ?_
  refine DL.pu 42 (.bool true) rfl (p_assign rfl rfl) ?_
  refine DL.nil ?_
  refine TT.ct rfl rfl rfl ?_
  refine TT.rg [0,1,2,3,4] [kp,kx,kq,kp,kS] rfl rfl ?_
  refine DL.mv 44 (.func (.func 83) #[] #[ptr b1 0]) rfl rfl rfl ?_
  refine DL.turnM (M:=M) (E:=[(some b1,.cells (#[a2_v]) 46 (0,0))]) (R:=[(some b5,.stringIter ⟨#[110,100]⟩ 1),(some b3,.cells ((Act.ce (Act.mk a0 0 0 0 0 0 z0 z0 zC z0 z0) nS nS nS)) 36 (0,0)),(some b2,.cells ((Act.ce (Act.mk 0 0 0 0 0 0 z0 z0 zC z0 z0) nS nS nS)) 36 (0,0))]) (fun b o e => hE.mi b o e) [3,0,1,2] rfl rfl (next83 (b:=b1) hr_a2) (args:=#[]) (caps:=#[ptr b1 0]) rfl (i:=1) rfl (Wn.none rfl) rfl rfl rfl rfl rfl rfl (args_val (vs:=[]) rfl) (fun w => enter83 _ w) ?_
  rintro ⟨p6_v,hr_p6⟩
  obtain ⟨t7,h8,h9⟩:=bind_some h
  refine DL.qu 46 (.int .i64 t7) rfl (f_callR rfl rfl (args_val (vs:=[str (a2.headD [])]) rfl) (fun w => enter84 _ w) (fun w hc => script_number.val h8 (M:=M) w (hE.ext hc) hG)) ?_
  refine DL.pu 47 (ptr b3 2) rfl (p_fieldAddr ty_f36_2 rfl rfl) ?_
  refine DL.put (H':=[(some b1,.cells (#[p6_v]) 46 (0,0)),(some b5,.stringIter ⟨#[110,100]⟩ 1),(some b3,.cells ((Act.ce (Act.mk a0 0 t7 0 0 0 z0 z0 zC z0 z0) nS nS nS)) 36 (0,0)),(some b2,.cells ((Act.ce (Act.mk 0 0 0 0 0 0 z0 z0 zC z0 z0) nS nS nS)) 36 (0,0))]) (i:=4) rfl (Wn.none rfl) rfl rfl (f_store (c:=(Act.ce (Act.mk a0 0 0 0 0 0 z0 z0 zC z0 z0) nS nS nS)) (v:=.int .i64 t7) (off:=2) (j:=2) ty_s3 rfl rfl (of_decide_eq_true rfl) trivial rfl rfl rfl) (keep_none rfl) ?_
  refine DL.nil ?_
  refine TT.inBlock ?_
  refine TT.inBlock ?_
  refine TT.inLoop ?_
  refine TT.sq rfl ?_
  refine TT.rg [0,1] [kx,kp] rfl rfl ?_
  refine DL.chr (j:=1) (c:=100) (wd:=1) rfl rfl rfl rfl rfl rfl (by decide) (by kernel_rfl) rfl rfl ?_
  refine DL.pu 19 (.bool true) rfl (p_extract rfl rfl rfl) ?_
  refine DL.nil ?_
  refine TT.sq rfl ?_
  refine TT.ct rfl rfl rfl ?_
  refine TT.skip ?_
  refine TT.bk rfl ?_
  refine TT.sq rfl ?_
  refine TT.rg [0,1] [kp,kp] rfl rfl ?_
  refine DL.pu 20 (.int .i32 100) rfl (p_extract rfl rfl rfl) ?_
  refine DL.pu 10 (.int .i32 100) rfl (p_assign rfl rfl) ?_
  refine DL.nil ?_
  refine TT.sq rfl ?_
  refine TT.rg [0] [kp] rfl rfl ?_
  refine DL.mv 21 (.int .i32 100) rfl rfl rfl ?_
  refine DL.nil ?_
  refine TT.bk rfl ?_
  refine TT.sq rfl ?_
  refine TT.rg [0,1] [kp,kp] rfl rfl ?_
  refine DL.pu 37 (.bool false) rfl (show FPure _ _ _ (.bool ((100 : Int) == (99 : Int))) from p_eql rfl rfl rfl) ?_
  refine DL.pu 36 (.bool false) rfl (p_assign rfl rfl) ?_
  refine DL.nil ?_
  refine TT.cf rfl rfl rfl ?_
  refine TT.sq rfl ?_
  refine TT.rg [0,1] [kp,kp] rfl rfl ?_
  refine DL.pu 43 (.bool false) rfl (show FPure _ _ _ (.bool ((100 : Int) == (110 : Int))) from p_eql rfl rfl rfl) ?_
  refine DL.pu 42 (.bool false) rfl (p_assign rfl rfl) ?_
  refine DL.nil ?_
  refine TT.cf rfl rfl rfl ?_
  refine TT.sq rfl ?_
  refine TT.rg [0,1] [kp,kp] rfl rfl ?_
  refine DL.pu 49 (.bool false) rfl (show FPure _ _ _ (.bool ((100 : Int) == (97 : Int))) from p_eql rfl rfl rfl) ?_
  refine DL.pu 48 (.bool false) rfl (p_assign rfl rfl) ?_
  refine DL.nil ?_
  refine TT.cf rfl rfl rfl ?_
  refine TT.sq rfl ?_
  refine TT.rg [0,1] [kp,kp] rfl rfl ?_
  refine DL.pu 55 (.bool false) rfl (show FPure _ _ _ (.bool ((100 : Int) == (98 : Int))) from p_eql rfl rfl rfl) ?_
  refine DL.pu 54 (.bool false) rfl (p_assign rfl rfl) ?_
  refine DL.nil ?_
  refine TT.cf rfl rfl rfl ?_
  refine TT.sq rfl ?_
  refine TT.rg [0,1] [kp,kp] rfl rfl ?_
  refine DL.pu 62 (.bool false) rfl (show FPure _ _ _ (.bool ((100 : Int) == (116 : Int))) from p_eql rfl rfl rfl) ?_
  refine DL.pu 61 (.bool false) rfl (p_assign rfl rfl) ?_
  refine DL.nil ?_
  refine TT.cf rfl rfl rfl ?_
  refine TT.sq rfl ?_
  refine TT.rg [0,1] [kp,kp] rfl rfl ?_
  refine DL.pu 71 (.bool false) rfl (show FPure _ _ _ (.bool ((100 : Int) == (102 : Int))) from p_eql rfl rfl rfl) ?_
  refine DL.pu 70 (.bool false) rfl (p_assign rfl rfl) ?_
  refine DL.nil ?_
  refine TT.cf rfl rfl rfl ?_
  refine TT.sq rfl ?_
  refine TT.rg [0,1] [kp,kp] rfl rfl ?_
  refine DL.pu 77 (.bool true) rfl (show FPure _ _ _ (.bool ((100 : Int) == (100 : Int))) from p_eql rfl rfl rfl) ?_
  refine DL.pu 76 (.bool true) rfl (p_assign rfl rfl) ?_
  refine DL.nil ?_
  refine TT.ct rfl rfl rfl ?_
  refine TT.rg [0,1,2,3,4] [kp,kx,kq,kp,kS] rfl rfl ?_
  refine DL.mv 78 (.func (.func 83) #[] #[ptr b1 0]) rfl rfl rfl ?_
  refine DL.turnM (M:=M) (E:=[(some b1,.cells (#[p6_v]) 46 (0,0))]) (R:=[(some b5,.stringIter ⟨#[110,100]⟩ 2),(some b3,.cells ((Act.ce (Act.mk a0 0 t7 0 0 0 z0 z0 zC z0 z0) nS nS nS)) 36 (0,0)),(some b2,.cells ((Act.ce (Act.mk 0 0 0 0 0 0 z0 z0 zC z0 z0) nS nS nS)) 36 (0,0))]) (fun b o e => hE.mi b o e) [0,1,2,3] rfl rfl (next83 (b:=b1) hr_p6) (args:=#[]) (caps:=#[ptr b1 0]) rfl (i:=1) rfl (Wn.none rfl) rfl rfl rfl rfl rfl rfl (args_val (vs:=[]) rfl) (fun w => enter83 _ w) ?_
  rintro ⟨p10_v,hr_p10⟩
  obtain ⟨t11,h12,h13⟩:=bind_some h9
  refine DL.qu 80 (.agg (enc .u8 (pad32 t11))) rfl (f_callR rfl rfl (args_val (vs:=[str ((a2.tail).headD [])]) rfl) (fun w => enter52 _ w) (fun w hc => script_keyOf.val h12 (M:=M) w (hE.ext hc) )) ?_
  refine DL.pu 81 (ptr b3 38) rfl (p_fieldAddr ty_f36_7 rfl rfl) ?_
  refine DL.put (H':=[(some b1,.cells (#[p10_v]) 46 (0,0)),(some b5,.stringIter ⟨#[110,100]⟩ 2),(some b3,.cells ((Act.ce (Act.mk a0 0 t7 0 0 0 z0 (t11) zC z0 z0) nS nS nS)) 36 (0,0)),(some b2,.cells ((Act.ce (Act.mk 0 0 0 0 0 0 z0 z0 zC z0 z0) nS nS nS)) 36 (0,0))]) (i:=4) rfl (Wn.none rfl) rfl rfl (by rw [← (show splice (Act.ce (Act.mk a0 0 t7 0 0 0 z0 z0 zC z0 z0) nS nS nS) 38 (Value.cells (.agg (enc .u8 (pad32 t11)))).toList = (Act.ce (Act.mk a0 0 t7 0 0 0 z0 (t11) zC z0 z0) nS nS nS) from by kernel_rfl)]; exact put_of_store (c:=(Act.ce (Act.mk a0 0 t7 0 0 0 z0 z0 zC z0 z0) nS nS nS)) (v:=.agg (enc .u8 (pad32 t11))) (n:=32) (off:=38) (j:=2) ty_s26 rfl rfl (of_decide_eq_true rfl) (one_int .u8 (pad32 t11)) rfl rfl rfl) (keep_none rfl) ?_
  refine DL.nil ?_
  refine TT.inBlock ?_
  refine TT.inBlock ?_
  refine TT.inLoop ?_
  refine TT.sq rfl ?_
  refine TT.rg [0,1] [kx,kp] rfl rfl ?_
  refine DL.chrE (j:=1) rfl rfl rfl rfl rfl rfl (by decide) rfl rfl ?_
  refine DL.pu 19 (.bool false) rfl (p_extract rfl rfl rfl) ?_
  refine DL.nil ?_
  refine TT.sq rfl ?_
  refine TT.cf rfl rfl rfl ?_
  refine TT.exit rfl ?_
  refine TT.sq rfl ?_
  refine TT.rg [0,1] [kq,kS] rfl rfl ?_
  refine DL.qu 97 (.agg (Act.ce (Act.mk a0 0 t7 0 0 0 z0 (t11) zC z0 z0) nS nS nS)) rfl (f_loadA (j:=2) ty_a36 ty_s36 rfl rfl rfl rfl) ?_
  refine DL.put (H':=[(some b1,.cells (#[p10_v]) 46 (0,0)),(some b5,.stringIter ⟨#[110,100]⟩ 2),(some b3,.cells ((Act.ce (Act.mk a0 0 t7 0 0 0 z0 (t11) zC z0 z0) nS nS nS)) 36 (0,0)),(some b2,.cells ((Act.ce (Act.mk a0 0 t7 0 0 0 z0 (t11) zC z0 z0) nS nS nS)) 36 (0,0))]) (i:=1) rfl (Wn.none rfl) rfl rfl (f_storeA (j:=3) ty_s36 rfl rfl rfl (act_one (sl_one (RowV.sl (IntRow.nil .u8 M))) (sl_one (RowV.sl (IntRow.nil .u8 M))) (sl_one (RowV.sl (IntRow.nil .i64 M)))) rfl rfl rfl) (keep_none rfl) ?_
  refine DL.nil ?_
  obtain rfl:=Option.some.inj h13
  exact retF (rs:=[.cell 6 36]) (vs:=[.agg (Act.ce (Act.mk a0 0 t7 0 0 0 z0 (t11) zC z0 z0) nS nS nS)]) (nS,nS,nS) hE Tryz.func36 rfl rfl rfl (res_cons (ResV.cell (j:=3) ty_a36 ty_s36 rfl rfl rfl) res_nil) ⟨(IntRow.nil .u8 M),(IntRow.nil .u8 M),(IntRow.nil .i64 M)⟩
 replace h:=(if_neg (by simpa using hs4_0)).symm.trans h
 cases h

end Go.Proofs.YthldgjbmjgjogaaGreatDoor
