import Derived.Test.YthldgjbmjgjogaaGreatDoorSd6
namespace Go.Proofs.YthldgjbmjgjogaaGreatDoor
open Go Go.HW Go.RowKit
set_option linter.unusedVariables false
set_option linter.unusedSimpArgs false

/-! ### escutcheon/script.MayAct: function 19 -/
noncomputable def B19 : Code:=bodyOf Tryz.f19
def script_MayAct.f (a0 : Act) : Option (Bool):=(script_forms.f).bind fun _ => nm (sfName a0.kind) fun t8 => nm (sfParts a0.kind) fun t11 => nm (sfIs a0.kind) fun t14 => (script_bare.f a0 t11).bind fun (t19_0,t19_1) => (if t14 = true then (some t19_1) else (some false)).bind fun q26 => (if q26 = true then ((script_same.f a0 t19_0).bind fun t40 => some t40) else (some false)).bind fun q34 => some q34
set_option maxHeartbeats 1000000 in
set_option maxRecDepth 20000 in
theorem script_MayAct.ok {a0 : Act} {a0_108 : Value} {a0_109 : Value} {a0_110 : Value} {r : Bool} (h : script_MayAct.f a0 = some r) {M : Mem} (w : World) (hM : Ext M (heapOf w)) (hr_a0_108 : IntRow M .u8 a0_108 a0.cmd.data) (hr_a0_109 : IntRow M .u8 a0_109 a0.bytes) (hr_a0_110 : IntRow M .i64 a0_110 a0.picks) : Calls Tryz.prog 19 #[.agg (Act.ce a0 a0_108 a0_109 a0_110)] w (Post (fun u => u = .bool r) w):=by
 unfold script_MayAct.f at h
 have hE:=Env.start hM
 refine calls_of_TT (N:=30) (S:=[(0,.agg (Act.ce a0 a0_108 a0_109 a0_110))]) (c:=B19) Tryz.func19 rfl rfl rfl (by simp) ?_
 show TT _ _ _ _ _ _ [.code (sub [] B19)] _ _
 refine TT.sq rfl ?_
 refine TT.rg [0,1] [kA,kp] rfl rfl ?_
 refine DL.new (ob:=.cells ((Act.ce a0 a0_108 a0_109 a0_110)) 36) (mk:=fun b => ptr b 0) (i:=0) rfl (Wn.none rfl) rfl rfl rfl (f_box (v:=.agg (Act.ce a0 a0_108 a0_109 a0_110)) rfl rfl) ?_
 intro b1 hb1
 refine DL.pu 2 (.bool false) rfl (p_assign rfl rfl) ?_
 refine DL.nil ?_
 refine TT.freezeAt (j:=0) hE rfl ?_
 intro M2 I2 hE2 hx2 hxI2 hb2
 have hm_2 : M2 b1 = some (.cells ((Act.ce a0 a0_108 a0_109 a0_110)) 36 (0,0)):=hb2 _ rfl
 show TT _ _ _ _ _ _ _ _ []
 refine TT.sq rfl ?_
 refine TT.rgD [1,2,0,3,4,5,6,7,8,9] [0,0,2,7,15,31,31,0,191,511] [kF,kp,kq,kq,kp,kp,kp,kA,(.store,some 107),kp] rfl mixed (by kernel_rfl) ?_
 intro w3 hl3 hj3 hz3
 refine DL.pu 9 (ptr b1 0) rfl (p_fieldAddr ty_f36_0 rfl rfl) ?_
 refine DL.qu 10 (.int .i64 a0.kind) rfl (FImm.quiet (i_loadBoxO (I:=M2) hm_2 rfl ty_a23 rfl rfl) (fun w hc => hE2.imm hc)) ?_
 obtain ⟨_,h5,h6⟩:=bind_some h
 refine DL.callFf (G:=Nat) (u:=fun g => .map (some g)) (Q:=fun g M_ => (M_ g = some SFormsO)) (A:=[]) (J:=[]) (fun J7 => (J7)) hl3.2.2.2 hE2.nil (List.append_nil _).symm (fun _ => rfl) (by simp) (i:=0) rfl (Wn.none rfl) rfl rfl rfl rfl rfl rfl (args_val (vs:=[]) rfl) (fun w => enter34 _ w) (fun w hc hI => script_forms.ok h5 (M:=M2) w hI ) ?_
 rintro t4_m M7 J7 hE7 hx7 hm_t4
 obtain ⟨t8,e9,h10⟩:=nm_some h6
 obtain ⟨t11,e12,h13⟩:=nm_some h10
 obtain ⟨t14,e15,h16⟩:=nm_some h13
 refine DL.qu 11 (.tuple #[.agg #[str t8,str t11],.bool t14]) rfl (by rw [e9,e12,e15]; exact FImm.quiet (i_lookupMOk (I:=M7) (a:=a0.kind) ty_u79 ty_u23 ty_z86 hm_t4 (sf_val a0.kind) (sf_is a0.kind) rfl rfl rfl) (fun w hc => hE7.immJ (A:=[]) hc rfl)) ?_
 refine DL.mv 7 (.tuple #[.agg #[str t8,str t11],.bool t14]) rfl rfl rfl ?_
 refine DL.pu 12 (.agg #[str t8,str t11]) rfl (p_extract rfl rfl rfl) ?_
 refine DL.pu 13 (.bool t14) rfl (p_extract rfl rfl rfl) ?_
 refine DL.new (ob:=.cells (#[str zU,str zU]) 86) (mk:=fun b => ptr b 0) (i:=7) rfl (Wn.none rfl) rfl rfl rfl (f_alloc ty_z86 rfl) ?_
 intro b17 hb17
 refine DL.put (H':=((some b17,.cells (#[str t8,str t11]) 86 (0,0)) :: J7)) (i:=8) rfl (Wn.none rfl) rfl rfl (f_storeA (j:=0) ty_s86 rfl rfl rfl (by simp [OneCell,str]) rfl rfl rfl) (keep_new (j:=0) hz3 hb17 rfl) ?_
 refine DL.pu 4 (.bool t14) rfl (p_assign rfl rfl) ?_
 refine DL.nil' hl3 ?_
 refine TT.settle (A:=[(some b17,.cells (#[str t8,str t11]) 86 (0,0))]) (J:=J7) hE7 ?_
 intro I18 hE18 hxI18
 refine TT.sq rfl ?_
 refine TT.rg [0,1,2,3,4,5,6,7,8,9] [kq,kp,kq,kF,kp,kp,kp,kA,kS,kp] rfl rfl ?_
 refine DL.qu 15 (.agg (Act.ce a0 a0_108 a0_109 a0_110)) rfl (FImm.quiet (i_loadBoxA (I:=M7) (hx7 _ _ hm_2) rfl ty_a36 ty_s36 rfl rfl) (fun w hc => hE18.imm hc)) ?_
 refine DL.pu 16 (ptr b17 1) rfl (p_fieldAddr ty_f86_1 rfl rfl) ?_
 refine DL.qu 17 (str t11) rfl (f_load (j:=0) ty_a9 rfl rfl rfl rfl) ?_
 obtain ⟨⟨t19_0,t19_1⟩,h20,h21⟩:=bind_some h16
 refine DL.callFf (G:=Value × Value × Value) (u:=fun g => .tuple #[.agg (Act.ce t19_0 (g.1) (g.2.1) (g.2.2)),.bool t19_1]) (Q:=fun g M_ => (IntRow M_ .u8 (g.1) t19_0.cmd.data) ∧ (IntRow M_ .u8 (g.2.1) t19_0.bytes) ∧ (IntRow M_ .i64 (g.2.2) t19_0.picks)) (A:=[(some b17,.cells (#[str t8,str t11]) 86 (0,0))]) (J:=[]) (fun J22 => ((some b17,.cells (#[str t8,str t11]) 86 (0,0)) :: J22)) (Nat.le_refl _) hE18.nil (List.append_nil _).symm (fun _ => rfl) (by simp) (i:=3) rfl (Wn.none rfl) rfl rfl rfl rfl rfl rfl (args_val (vs:=[.agg (Act.ce a0 a0_108 a0_109 a0_110),str t11]) rfl) (fun w => enter60 _ w) (fun w hc hI => script_bare.ok h20 (M:=M7) w hI (IntRow.mono hr_a0_108 (hx2.trans hx7)) (IntRow.mono hr_a0_109 (hx2.trans hx7)) (IntRow.mono hr_a0_110 (hx2.trans hx7))) ?_
 rintro ⟨t19_0_108,t19_0_109,t19_0_110⟩ M22 J22 hE22 hx22 ⟨hr_t19_0_108,hr_t19_0_109,hr_t19_0_110⟩
 refine DL.mv 14 (.tuple #[.agg (Act.ce t19_0 t19_0_108 t19_0_109 t19_0_110),.bool t19_1]) rfl rfl rfl ?_
 refine DL.pu 19 (.agg (Act.ce t19_0 t19_0_108 t19_0_109 t19_0_110)) rfl (p_extract rfl rfl rfl) ?_
 refine DL.pu 20 (.bool t19_1) rfl (p_extract rfl rfl rfl) ?_
 refine DL.new (ob:=.cells ((Act.ce (Act.mk 0 0 0 0 0 0 z0 z0 zC z0 z0) nS nS nS)) 36) (mk:=fun b => ptr b 0) (i:=7) rfl (Wn.none rfl) rfl rfl rfl (f_alloc ty_z36 rfl) ?_
 intro b23 hb23
 refine DL.put (H':=((some b23,.cells ((Act.ce t19_0 t19_0_108 t19_0_109 t19_0_110)) 36 (0,0)) :: (some b17,.cells (#[str t8,str t11]) 86 (0,0)) :: J22)) (i:=8) rfl (Wn.none rfl) rfl rfl (f_storeA (j:=0) ty_s36 rfl rfl rfl (act_one (sl_one (RowV.sl hr_t19_0_108)) (sl_one (RowV.sl hr_t19_0_109)) (sl_one (RowV.sl hr_t19_0_110))) rfl rfl rfl) (keep_none rfl) ?_
 refine DL.pu 6 (.bool t19_1) rfl (p_assign rfl rfl) ?_
 refine DL.nil ?_
 refine TT.settle (A:=[(some b23,.cells ((Act.ce t19_0 t19_0_108 t19_0_109 t19_0_110)) 36 (0,0)),(some b17,.cells (#[str t8,str t11]) 86 (0,0))]) (J:=J22) hE22 ?_
 intro I24 hE24 hxI24
 refine TT.sq rfl ?_
 refine TT.rg [0,1,2,3,4,5,6,7,8,9] [kp,kp,kp,kp,kp,kq,kq,kq,kp,kp] rfl rfl ?_
 refine DL.mv 21 (.bool t14) rfl rfl rfl ?_
 refine DL.mv 22 (.bool t14) rfl rfl rfl ?_
 obtain ⟨q26,h27,h28⟩:=bind_some h21
 refine DL.cut [(1,ptr b1 0),(5,ptr b23 0),(24,.bool q26)] [4,5,6,7,8,9] ?_ (fun J29 => ?_)
 ·
  refine DL.mv 25 (.bool q26) rfl rfl rfl ?_
  obtain ⟨q34,h35,h36⟩:=bind_some h28
  refine DL.cut [(29,.bool q34)] [9] ?_ (fun J37 => ?_)
  ·
   refine DL.pu 2 (.bool q34) rfl (p_assign rfl rfl) ?_
   refine DL.nil ?_
   obtain rfl:=Option.some.inj h36
   exact retnE (rs:=[.tmp 2]) (vs:=[.bool q34]) hE24.base Tryz.func19 rfl rfl rfl (res_cons (ResV.tmp rfl) res_nil) rfl
  ·
   by_cases c38 : q26 = true
   ·
    have h39:=ite_true c38 h35
    refine DL.quiet (v:=.agg (Act.ce a0 a0_108 a0_109 a0_110)) rfl (Wn.yes c38 rfl rfl rfl rfl) rfl rfl rfl (FImm.quiet (i_loadBoxA (I:=M22) ((hx7.trans hx22) _ _ hm_2) rfl ty_a36 ty_s36 rfl rfl) (fun w hc => hE24.imm hc)) ?_
    refine DL.quiet (v:=.agg (Act.ce t19_0 t19_0_108 t19_0_109 t19_0_110)) rfl (Wn.yes c38 rfl rfl rfl rfl) rfl rfl rfl (f_loadA (j:=0) ty_a36 ty_s36 rfl rfl rfl rfl) ?_
    obtain ⟨t40,h41,h42⟩:=bind_some h39
    refine DL.quiet (v:=.bool t40) rfl (Wn.yes c38 rfl rfl rfl rfl) rfl rfl rfl (f_callR rfl rfl (args_val (vs:=[.agg (Act.ce a0 a0_108 a0_109 a0_110),.agg (Act.ce t19_0 t19_0_108 t19_0_109 t19_0_110)]) rfl) (fun w => enter61 _ w) (fun w hc => script_same.val h41 (M:=M22) w (hE24.ext hc) (IntRow.mono hr_a0_108 ((hx2.trans hx7).trans hx22)) (IntRow.mono hr_a0_109 ((hx2.trans hx7).trans hx22)) (IntRow.mono hr_a0_110 ((hx2.trans hx7).trans hx22)) hr_t19_0_108 hr_t19_0_109 hr_t19_0_110)) ?_
    refine DL.pu 29 (.bool t40) rfl (p_pick_t c38 rfl rfl rfl) ?_
    obtain rfl:=Option.some.inj h42
    exact DL.weak J37 (Sub.cons rfl (Sub.nil _))
   ·
    replace c38:=Bool.eq_false_iff.mpr c38
    have h43:=ite_false c38 h35
    refine DL.not rfl (Wn.no c38 rfl rfl rfl rfl) rfl rfl ?_
    refine DL.not rfl (Wn.no c38 rfl rfl rfl rfl) rfl rfl ?_
    refine DL.not rfl (Wn.no c38 rfl rfl rfl rfl) rfl rfl ?_
    refine DL.pu 29 (.bool false) rfl (p_pick_f c38 rfl rfl rfl) ?_
    obtain rfl:=Option.some.inj h43
    exact DL.weak J37 (Sub.cons rfl (Sub.nil _))
 ·
  by_cases c30 : t14 = true
  ·
   have h31:=ite_true c30 h27
   refine DL.pure (v:=.bool t19_1) rfl (Wn.yes c30 rfl rfl rfl rfl) rfl rfl rfl (p_move rfl rfl) ?_
   refine DL.pu 24 (.bool t19_1) rfl (p_pick_t c30 rfl rfl rfl) ?_
   obtain rfl:=Option.some.inj h31
   exact DL.weak J29 (Sub.cons rfl (Sub.cons rfl (Sub.cons rfl (Sub.nil _))))
  ·
   replace c30:=Bool.eq_false_iff.mpr c30
   have h32:=ite_false c30 h27
   refine DL.not rfl (Wn.no c30 rfl rfl rfl rfl) rfl rfl ?_
   refine DL.pu 24 (.bool false) rfl (p_pick_f c30 rfl rfl rfl) ?_
   obtain rfl:=Option.some.inj h32
   exact DL.weak J29 (Sub.cons rfl (Sub.cons rfl (Sub.cons rfl (Sub.nil _))))
theorem script_MayAct.val {a0 : Act} {a0_108 : Value} {a0_109 : Value} {a0_110 : Value} {r : Bool} (h : script_MayAct.f a0 = some r) {M : Mem} (w : World) (hM : Ext M (heapOf w)) (hr_a0_108 : IntRow M .u8 a0_108 a0.cmd.data) (hr_a0_109 : IntRow M .u8 a0_109 a0.bytes) (hr_a0_110 : IntRow M .i64 a0_110 a0.picks) : Calls Tryz.prog 19 #[.agg (Act.ce a0 a0_108 a0_109 a0_110)] w fun e w' => e = .returned (.bool r) ∧ Below w.heap.size w w' :=
 calls_value (script_MayAct.ok h w hM hr_a0_108 hr_a0_109 hr_a0_110)

/-! ### escutcheon/script.ActText: function 17 -/
noncomputable def B17 : Code:=bodyOf Tryz.f17
def script_ActText.f (a0 : Act) : Option ((List UInt8) × Int):=(script_MayAct.f a0).bind fun t3 => if (!t3) = true then (some (zU,2)) else ((script_actText.f a0).bind fun t9 => some (t9,0))
set_option maxRecDepth 20000 in
theorem script_ActText.ok {a0 : Act} {a0_108 : Value} {a0_109 : Value} {a0_110 : Value} {r_0 : List UInt8} {r_1 : Int} (h : script_ActText.f a0 = some (r_0,r_1)) {M : Mem} (w : World) (hM : Ext M (heapOf w)) (hG : Glob M) (hr_a0_108 : IntRow M .u8 a0_108 a0.cmd.data) (hr_a0_109 : IntRow M .u8 a0_109 a0.bytes) (hr_a0_110 : IntRow M .i64 a0_110 a0.picks) : Calls Tryz.prog 17 #[.agg (Act.ce a0 a0_108 a0_109 a0_110)] w (Post (fun u => u = .tuple #[str r_0,.int .i64 r_1]) w):=by
 unfold script_ActText.f at h
 have hE:=Env.start hM
 refine calls_of_TT (N:=9) (S:=[(0,.agg (Act.ce a0 a0_108 a0_109 a0_110))]) (c:=B17) Tryz.func17 rfl rfl rfl (by simp) ?_
 show TT _ _ _ _ _ _ [.code (sub [] B17)] _ _
 refine TT.sq rfl ?_
 refine TT.rg [0,1,2] [kA,kp,kp] rfl rfl ?_
 refine DL.new (ob:=.cells ((Act.ce a0 a0_108 a0_109 a0_110)) 36) (mk:=fun b => ptr b 0) (i:=0) rfl (Wn.none rfl) rfl rfl rfl (f_box (v:=.agg (Act.ce a0 a0_108 a0_109 a0_110)) rfl rfl) ?_
 intro b1 hb1
 refine DL.pu 2 (str zU) rfl (p_assign rfl rfl) ?_
 refine DL.pu 3 (.int .i64 0) rfl (p_assign rfl rfl) ?_
 refine DL.nil ?_
 refine TT.freezeAt (j:=0) hE rfl ?_
 intro M2 I2 hE2 hx2 hxI2 hb2
 have hm_2 : M2 b1 = some (.cells ((Act.ce a0 a0_108 a0_109 a0_110)) 36 (0,0)):=hb2 _ rfl
 show TT _ _ _ _ _ _ _ _ []
 refine TT.sq rfl ?_
 refine TT.sq rfl ?_
 refine TT.rg [0,1,2] [kq,kq,kp] rfl rfl ?_
 refine DL.qu 4 (.agg (Act.ce a0 a0_108 a0_109 a0_110)) rfl (FImm.quiet (i_loadBoxA (I:=M2) hm_2 rfl ty_a36 ty_s36 rfl rfl) (fun w hc => hE2.imm hc)) ?_
 obtain ⟨t3,h4,h5⟩:=bind_some h
 refine DL.qu 5 (.bool t3) rfl (f_callR rfl rfl (args_val (vs:=[.agg (Act.ce a0 a0_108 a0_109 a0_110)]) rfl) (fun w => enter19 _ w) (fun w hc => script_MayAct.val h4 (M:=M2) w (hE2.ext hc) (IntRow.mono hr_a0_108 hx2) (IntRow.mono hr_a0_109 hx2) (IntRow.mono hr_a0_110 hx2))) ?_
 refine DL.pu 6 (.bool (!t3)) rfl (p_not rfl rfl) ?_
 refine DL.nil ?_
 by_cases c6 : (!t3) = true
 ·
  have h7:=ite_true c6 h5
  refine TT.ct rfl rfl c6 ?_
  refine TT.sq rfl ?_
  refine TT.rg [0,1] [kp,kp] rfl rfl ?_
  refine DL.pu 2 (str zU) rfl (p_assign rfl rfl) ?_
  refine DL.pu 3 (.int .i64 2) rfl (p_assign rfl rfl) ?_
  refine DL.nil ?_
  simp only [Option.some.injEq,Prod.mk.injEq] at h7
  obtain ⟨rfl,rfl⟩:=h7
  exact retnE (rs:=[.tmp 2,.tmp 3]) (vs:=[str zU,.int .i64 2]) hE2.base Tryz.func17 rfl rfl rfl (res_cons (ResV.tmp rfl) (res_cons (ResV.tmp rfl) res_nil)) rfl
 ·
  replace c6:=Bool.eq_false_iff.mpr c6
  have h8:=ite_false c6 h5
  refine TT.cf rfl rfl c6 ?_
  refine TT.skip ?_
  refine TT.sq rfl ?_
  refine TT.rg [0,1,2,3] [kq,kq,kp,kp] rfl rfl ?_
  refine DL.qu 7 (.agg (Act.ce a0 a0_108 a0_109 a0_110)) rfl (FImm.quiet (i_loadBoxA (I:=M2) hm_2 rfl ty_a36 ty_s36 rfl rfl) (fun w hc => hE2.imm hc)) ?_
  obtain ⟨t9,h10,h11⟩:=bind_some h8
  refine DL.qu 8 (str t9) rfl (f_callR rfl rfl (args_val (vs:=[.agg (Act.ce a0 a0_108 a0_109 a0_110)]) rfl) (fun w => enter37 _ w) (fun w hc => script_actText.val h10 (M:=M2) w (hE2.ext hc) (Glob.mono hG hx2) (IntRow.mono hr_a0_108 hx2) (IntRow.mono hr_a0_109 hx2) (IntRow.mono hr_a0_110 hx2))) ?_
  refine DL.pu 2 (str t9) rfl (p_assign rfl rfl) ?_
  refine DL.pu 3 (.int .i64 0) rfl (p_assign rfl rfl) ?_
  refine DL.nil ?_
  simp only [Option.some.injEq,Prod.mk.injEq] at h11
  obtain ⟨rfl,rfl⟩:=h11
  exact retnE (rs:=[.tmp 2,.tmp 3]) (vs:=[str t9,.int .i64 0]) hE2.base Tryz.func17 rfl rfl rfl (res_cons (ResV.tmp rfl) (res_cons (ResV.tmp rfl) res_nil)) rfl
theorem script_ActText.val {a0 : Act} {a0_108 : Value} {a0_109 : Value} {a0_110 : Value} {r_0 : List UInt8} {r_1 : Int} (h : script_ActText.f a0 = some (r_0,r_1)) {M : Mem} (w : World) (hM : Ext M (heapOf w)) (hG : Glob M) (hr_a0_108 : IntRow M .u8 a0_108 a0.cmd.data) (hr_a0_109 : IntRow M .u8 a0_109 a0.bytes) (hr_a0_110 : IntRow M .i64 a0_110 a0.picks) : Calls Tryz.prog 17 #[.agg (Act.ce a0 a0_108 a0_109 a0_110)] w fun e w' => e = .returned (.tuple #[str r_0,.int .i64 r_1]) ∧ Below w.heap.size w w' :=
 calls_value (script_ActText.ok h w hM hG hr_a0_108 hr_a0_109 hr_a0_110)

/-! ### escutcheon/script.CmdText: function 18 -/
end Go.Proofs.YthldgjbmjgjogaaGreatDoor
