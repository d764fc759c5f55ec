import Derived.Test.YthldgjbmjgjogaaGreatDoorSc3
namespace Go.Proofs.YthldgjbmjgjogaaGreatDoor
open Go Go.HW Go.RowKit
set_option linter.unusedVariables false
set_option linter.unusedSimpArgs false

/-! ### escutcheon/script.cmdText: function 55 -/
noncomputable def B55 : Code:=bodyOf Tryz.f55
def script_cmdText.f (a0 : Cmd) : Option ((List UInt8)):=(script_commands.f).bind fun t4 => req (0 ≤ a0.kind) (req (a0.kind < (t4.length : Int)) ((frame_Names.f a0.kind).bind fun t16 => if (t16 == [116,97]) = true then ((script_types.f).bind fun t22 => req (0 ≤ a0.typ) (req (a0.typ < (t22.length : Int)) (req (([t4.getD a0.kind.toNat []] : List (List UInt8)).length + [t22.getD a0.typ.toNat []].length ≤ 1099511627776) ((policy_Text.f a0.attr).bind fun t34 => req ((([t4.getD a0.kind.toNat []] : List (List UInt8)) ++ ([t22.getD a0.typ.toNat []] : List (List UInt8))).length + [t34].length ≤ 1099511627776) (req (((([t4.getD a0.kind.toNat []] : List (List UInt8)) ++ ([t22.getD a0.typ.toNat []] : List (List UInt8))) ++ ([t34] : List (List UInt8))).length ≤ 140737488355328) (req ((joinL ((([t4.getD a0.kind.toNat []] : List (List UInt8)) ++ ([t22.getD a0.typ.toNat []] : List (List UInt8))) ++ ([t34] : List (List UInt8))) [32]).length ≤ 140737488355328) (nm (joinL ((([t4.getD a0.kind.toNat []] : List (List UInt8)) ++ ([t22.getD a0.typ.toNat []] : List (List UInt8))) ++ ([t34] : List (List UInt8))) [32]) fun t44 => some t44))))))) else (if (t16 == [116,97,107]) = true then ((script_types.f).bind fun t49 => req (0 ≤ a0.typ) (req (a0.typ < (t49.length : Int)) (req (([t4.getD a0.kind.toNat []] : List (List UInt8)).length + [t49.getD a0.typ.toNat []].length ≤ 1099511627776) ((policy_Text.f a0.attr).bind fun t61 => req ((([t4.getD a0.kind.toNat []] : List (List UInt8)) ++ ([t49.getD a0.typ.toNat []] : List (List UInt8))).length + [t61].length ≤ 1099511627776) ((wire_Hex.f (pad32 a0.key)).bind fun t68 => req (((([t4.getD a0.kind.toNat []] : List (List UInt8)) ++ ([t49.getD a0.typ.toNat []] : List (List UInt8))) ++ ([t61] : List (List UInt8))).length + [t68].length ≤ 1099511627776) (req ((((([t4.getD a0.kind.toNat []] : List (List UInt8)) ++ ([t49.getD a0.typ.toNat []] : List (List UInt8))) ++ ([t61] : List (List UInt8))) ++ ([t68] : List (List UInt8))).length ≤ 140737488355328) (req ((joinL (((([t4.getD a0.kind.toNat []] : List (List UInt8)) ++ ([t49.getD a0.typ.toNat []] : List (List UInt8))) ++ ([t61] : List (List UInt8))) ++ ([t68] : List (List UInt8))) [32]).length ≤ 140737488355328) (nm (joinL (((([t4.getD a0.kind.toNat []] : List (List UInt8)) ++ ([t49.getD a0.typ.toNat []] : List (List UInt8))) ++ ([t61] : List (List UInt8))) ++ ([t68] : List (List UInt8))) [32]) fun t78 => some t78)))))))) else (if (t16 == [104]) = true then (req (-9223372036854775808 ≤ (IntKind.i64.wrap a0.handle)) (req ((IntKind.i64.wrap a0.handle) ≤ 9223372036854775807) (nm (Lib.itoa (IntKind.i64.wrap a0.handle)) fun t86 => req (([t4.getD a0.kind.toNat []] : List (List UInt8)).length + [t86].length ≤ 1099511627776) (req ((([t4.getD a0.kind.toNat []] : List (List UInt8)) ++ ([t86] : List (List UInt8))).length ≤ 140737488355328) (req ((joinL (([t4.getD a0.kind.toNat []] : List (List UInt8)) ++ ([t86] : List (List UInt8))) [32]).length ≤ 140737488355328) (nm (joinL (([t4.getD a0.kind.toNat []] : List (List UInt8)) ++ ([t86] : List (List UInt8))) [32]) fun t96 => some t96)))))) else (if (t16 == [104,100]) = true then (req (-9223372036854775808 ≤ (IntKind.i64.wrap a0.handle)) (req ((IntKind.i64.wrap a0.handle) ≤ 9223372036854775807) (nm (Lib.itoa (IntKind.i64.wrap a0.handle)) fun t104 => req (([t4.getD a0.kind.toNat []] : List (List UInt8)).length + [t104].length ≤ 1099511627776) ((script_digits.f a0.data).bind fun t110 => req ((([t4.getD a0.kind.toNat []] : List (List UInt8)) ++ ([t104] : List (List UInt8))).length + [t110].length ≤ 1099511627776) (req (((([t4.getD a0.kind.toNat []] : List (List UInt8)) ++ ([t104] : List (List UInt8))) ++ ([t110] : List (List UInt8))).length ≤ 140737488355328) (req ((joinL ((([t4.getD a0.kind.toNat []] : List (List UInt8)) ++ ([t104] : List (List UInt8))) ++ ([t110] : List (List UInt8))) [32]).length ≤ 140737488355328) (nm (joinL ((([t4.getD a0.kind.toNat []] : List (List UInt8)) ++ ([t104] : List (List UInt8))) ++ ([t110] : List (List UInt8))) [32]) fun t120 => some t120))))))) else (if (t16 == [104,111]) = true then (req (-9223372036854775808 ≤ (IntKind.i64.wrap a0.handle)) (req ((IntKind.i64.wrap a0.handle) ≤ 9223372036854775807) (nm (Lib.itoa (IntKind.i64.wrap a0.handle)) fun t128 => req (([t4.getD a0.kind.toNat []] : List (List UInt8)).length + [t128].length ≤ 1099511627776) (req (-9223372036854775808 ≤ (IntKind.i64.wrap a0.other)) (req ((IntKind.i64.wrap a0.other) ≤ 9223372036854775807) (nm (Lib.itoa (IntKind.i64.wrap a0.other)) fun t138 => req ((([t4.getD a0.kind.toNat []] : List (List UInt8)) ++ ([t128] : List (List UInt8))).length + [t138].length ≤ 1099511627776) (req (((([t4.getD a0.kind.toNat []] : List (List UInt8)) ++ ([t128] : List (List UInt8))) ++ ([t138] : List (List UInt8))).length ≤ 140737488355328) (req ((joinL ((([t4.getD a0.kind.toNat []] : List (List UInt8)) ++ ([t128] : List (List UInt8))) ++ ([t138] : List (List UInt8))) [32]).length ≤ 140737488355328) (nm (joinL ((([t4.getD a0.kind.toNat []] : List (List UInt8)) ++ ([t128] : List (List UInt8))) ++ ([t138] : List (List UInt8))) [32]) fun t148 => some t148))))))))) else (if (t16 == [104,97,100]) = true then (req (-9223372036854775808 ≤ (IntKind.i64.wrap a0.handle)) (req ((IntKind.i64.wrap a0.handle) ≤ 9223372036854775807) (nm (Lib.itoa (IntKind.i64.wrap a0.handle)) fun t156 => req (([t4.getD a0.kind.toNat []] : List (List UInt8)).length + [t156].length ≤ 1099511627776) ((policy_Text.f a0.attr).bind fun t162 => req ((([t4.getD a0.kind.toNat []] : List (List UInt8)) ++ ([t156] : List (List UInt8))).length + [t162].length ≤ 1099511627776) ((script_digits.f a0.data).bind fun t168 => req (((([t4.getD a0.kind.toNat []] : List (List UInt8)) ++ ([t156] : List (List UInt8))) ++ ([t162] : List (List UInt8))).length + [t168].length ≤ 1099511627776) (req ((((([t4.getD a0.kind.toNat []] : List (List UInt8)) ++ ([t156] : List (List UInt8))) ++ ([t162] : List (List UInt8))) ++ ([t168] : List (List UInt8))).length ≤ 140737488355328) (req ((joinL (((([t4.getD a0.kind.toNat []] : List (List UInt8)) ++ ([t156] : List (List UInt8))) ++ ([t162] : List (List UInt8))) ++ ([t168] : List (List UInt8))) [32]).length ≤ 140737488355328) (nm (joinL (((([t4.getD a0.kind.toNat []] : List (List UInt8)) ++ ([t156] : List (List UInt8))) ++ ([t162] : List (List UInt8))) ++ ([t168] : List (List UInt8))) [32]) fun t178 => some t178)))))))) else (if (t16 == [104,116,97,100]) = true then (req (-9223372036854775808 ≤ (IntKind.i64.wrap a0.handle)) (req ((IntKind.i64.wrap a0.handle) ≤ 9223372036854775807) (nm (Lib.itoa (IntKind.i64.wrap a0.handle)) fun t186 => req (([t4.getD a0.kind.toNat []] : List (List UInt8)).length + [t186].length ≤ 1099511627776) ((script_types.f).bind fun t193 => req (0 ≤ a0.typ) (req (a0.typ < (t193.length : Int)) (req ((([t4.getD a0.kind.toNat []] : List (List UInt8)) ++ ([t186] : List (List UInt8))).length + [t193.getD a0.typ.toNat []].length ≤ 1099511627776) ((policy_Text.f a0.attr).bind fun t205 => req (((([t4.getD a0.kind.toNat []] : List (List UInt8)) ++ ([t186] : List (List UInt8))) ++ ([t193.getD a0.typ.toNat []] : List (List UInt8))).length + [t205].length ≤ 1099511627776) ((script_digits.f a0.data).bind fun t211 => req ((((([t4.getD a0.kind.toNat []] : List (List UInt8)) ++ ([t186] : List (List UInt8))) ++ ([t193.getD a0.typ.toNat []] : List (List UInt8))) ++ ([t205] : List (List UInt8))).length + [t211].length ≤ 1099511627776) (req (((((([t4.getD a0.kind.toNat []] : List (List UInt8)) ++ ([t186] : List (List UInt8))) ++ ([t193.getD a0.typ.toNat []] : List (List UInt8))) ++ ([t205] : List (List UInt8))) ++ ([t211] : List (List UInt8))).length ≤ 140737488355328) (req ((joinL ((((([t4.getD a0.kind.toNat []] : List (List UInt8)) ++ ([t186] : List (List UInt8))) ++ ([t193.getD a0.typ.toNat []] : List (List UInt8))) ++ ([t205] : List (List UInt8))) ++ ([t211] : List (List UInt8))) [32]).length ≤ 140737488355328) (nm (joinL ((((([t4.getD a0.kind.toNat []] : List (List UInt8)) ++ ([t186] : List (List UInt8))) ++ ([t193.getD a0.typ.toNat []] : List (List UInt8))) ++ ([t205] : List (List UInt8))) ++ ([t211] : List (List UInt8))) [32]) fun t221 => some t221))))))))))) else (if (t16 == [104,97]) = true then (req (-9223372036854775808 ≤ (IntKind.i64.wrap a0.handle)) (req ((IntKind.i64.wrap a0.handle) ≤ 9223372036854775807) (nm (Lib.itoa (IntKind.i64.wrap a0.handle)) fun t229 => req (([t4.getD a0.kind.toNat []] : List (List UInt8)).length + [t229].length ≤ 1099511627776) ((policy_Text.f a0.attr).bind fun t235 => req ((([t4.getD a0.kind.toNat []] : List (List UInt8)) ++ ([t229] : List (List UInt8))).length + [t235].length ≤ 1099511627776) (req (((([t4.getD a0.kind.toNat []] : List (List UInt8)) ++ ([t229] : List (List UInt8))) ++ ([t235] : List (List UInt8))).length ≤ 140737488355328) (req ((joinL ((([t4.getD a0.kind.toNat []] : List (List UInt8)) ++ ([t229] : List (List UInt8))) ++ ([t235] : List (List UInt8))) [32]).length ≤ 140737488355328) (nm (joinL ((([t4.getD a0.kind.toNat []] : List (List UInt8)) ++ ([t229] : List (List UInt8))) ++ ([t235] : List (List UInt8))) [32]) fun t245 => some t245))))))) else (if (t16 == zU) = true then (req (([t4.getD a0.kind.toNat []] : List (List UInt8)).length ≤ 140737488355328) (req ((joinL ([t4.getD a0.kind.toNat []] : List (List UInt8)) [32]).length ≤ 140737488355328) (nm (joinL ([t4.getD a0.kind.toNat []] : List (List UInt8)) [32]) fun t253 => some t253))) else (none)))))))))))
set_option maxHeartbeats 1000000 in
set_option maxRecDepth 20000 in
theorem script_cmdText.ok {a0 : Cmd} {a0_38 : Value} {r : List UInt8} (h : script_cmdText.f a0 = some r) {M : Mem} (w : World) (hM : Ext M (heapOf w)) (hG : Glob M) (hr_a0_38 : IntRow M .u8 a0_38 a0.data) : Calls Tryz.prog 55 #[.agg (Cmd.ce a0 a0_38)] w (Post (fun u => u = str r) w):=by
 unfold script_cmdText.f at h
 have hE:=Env.start hM
 refine calls_of_TT (N:=68) (S:=[(0,.agg (Cmd.ce a0 a0_38))]) (c:=B55) Tryz.func55 rfl rfl rfl (by simp) ?_
 show TT _ _ _ _ _ _ [.code (sub [] B55)] _ _
 refine TT.sq rfl ?_
 refine TT.rg [0,1] [kA,kp] rfl rfl ?_
 refine DL.new (ob:=.cells ((Cmd.ce a0 a0_38)) 33) (mk:=fun b => ptr b 0) (i:=0) rfl (Wn.none rfl) rfl rfl rfl (f_box (v:=.agg (Cmd.ce a0 a0_38)) rfl rfl) ?_
 intro b1 hb1
 refine DL.pu 2 (str zU) rfl (p_assign rfl rfl) ?_
 refine DL.nil ?_
 refine TT.freezeAt (j:=0) hE rfl ?_
 intro M2 I2 hE2 hx2 hxI2 hb2
 have hm_2 : M2 b1 = some (.cells ((Cmd.ce a0 a0_38)) 33 (0,0)):=hb2 _ rfl
 show TT _ _ _ _ _ _ _ _ []
 refine TT.sq rfl ?_
 refine TT.rgD [1,2,0,3,4,5,6,7] [0,0,2,7,15,31,0,127] [kF,kp,kq,kp,kq,kA,kA,(.store,some 106)] rfl mixed (by kernel_rfl) ?_
 intro w3 hl3 hj3 hz3
 refine DL.pu 8 (ptr b1 1) rfl (p_fieldAddr ty_f33_1 rfl rfl) ?_
 refine DL.qu 9 (.int .i64 a0.kind) rfl (FImm.quiet (i_loadBoxO (I:=M2) hm_2 rfl ty_a27 rfl rfl) (fun w hc => hE2.imm hc)) ?_
 obtain ⟨t4,h5,h6⟩:=bind_some h
 refine DL.callFf (G:=Value) (u:=fun g => g) (Q:=fun g M_ => (RowS Sh.str M_ g t4)) (A:=[]) (J:=[]) (fun J7 => (J7)) hl3.2.2.2 hE2.nil (List.append_nil _).symm (fun _ => rfl) (by simp) (i:=0) rfl (Wn.none rfl) rfl rfl rfl rfl rfl rfl (args_val (vs:=[]) rfl) (fun w => enter47 _ w) (fun w hc hI => script_commands.ok h5 (M:=M2) w hI ) ?_
 rintro t4_v M7 J7 hE7 hx7 hr_t4
 obtain ⟨g8,h9⟩:=req_some h6
 obtain ⟨g10,h11⟩:=req_some h9
 refine DL.pu 10 (elp t4_v a0.kind.toNat) rfl (p_slIx1 ty_u46 ty_s9 (RowS.some hr_t4 g8 g10) g8 g10 rfl rfl rfl) ?_
 refine DL.qu 11 (str (t4.getD a0.kind.toNat [])) rfl (q_loadEl (fun w hc => hE7.immJ (A:=[]) hc rfl) (RowS.strs hr_t4) (strs_get (lt_len g8 g10)) ty_a9 rfl rfl) ?_
 refine DL.newS (M:=M7) (s:=Sh.str) (zs:=([t4.getD a0.kind.toNat []] : List (List UInt8))) (cells:=[str (t4.getD a0.kind.toNat [])]) (n:=1) rfl (by decide) rfl (fun i x hx => by match i,hx with | 0,hx => cases hx; exact rfl | k + 1,hx => simp at hx) (i:=5) rfl (Wn.none rfl) rfl rfl rfl (f_buildS (n:=1) (vs:=[(0,str (t4.getD a0.kind.toNat []))]) elem46 rfl rfl (by kernel_rfl) rfl (args_val2 rfl)) ?_
 intro s13_v s13_c ho_s13
 refine DL.new (ob:=.cells (#[nS]) 46) (mk:=fun b => ptr b 0) (i:=6) rfl (Wn.none rfl) rfl rfl rfl (f_alloc ty_z46 rfl) ?_
 intro b14 hb14
 refine DL.put (H':=((some b14,.cells (#[s13_v]) 46 (0,0)) :: (Value.ownBlock s13_v,.cells s13_c 9 (0,0)) :: J7)) (i:=7) rfl (Wn.none rfl) rfl rfl (f_store (c:=#[nS]) (v:=s13_v) (off:=0) (j:=0) ty_s46 rfl (sl_cells (OwnS.sl ho_s13)) (of_decide_eq_true rfl) (sl_one (OwnS.sl ho_s13)) rfl rfl rfl) (keep_new (j:=0) hz3 hb14 rfl) ?_
 refine DL.nil' hl3 ?_
 refine TT.settle (A:=[(some b14,.cells (#[s13_v]) 46 (0,0)),(Value.ownBlock s13_v,.cells s13_c 9 (0,0))]) (J:=J7) hE7 ?_
 intro I15 hE15 hxI15
 refine TT.sq rfl ?_
 refine TT.rg [0,1] [kp,kp] rfl rfl ?_
 refine DL.pu 13 (.func (.func 93) #[] #[ptr b14 0]) rfl (p_makeFunc rfl (args_val (vs:=[ptr b14 0]) rfl)) ?_
 refine DL.pu 4 (.func (.func 93) #[] #[ptr b14 0]) rfl (p_assign rfl rfl) ?_
 refine DL.nil ?_
 refine TT.sq rfl ?_
 refine TT.sq rfl ?_
 refine TT.rg [0,1,2,3] [kp,kq,kq,kk] rfl rfl ?_
 refine DL.pu 14 (ptr b1 1) rfl (p_fieldAddr ty_f33_1 rfl rfl) ?_
 refine DL.qu 15 (.int .i64 a0.kind) rfl (FImm.quiet (i_loadBoxO (I:=M7) (hx7 _ _ hm_2) rfl ty_a27 rfl rfl) (fun w hc => hE15.imm hc)) ?_
 obtain ⟨t16,h17,h18⟩:=bind_some h11
 refine DL.qu 16 (str t16) rfl (f_callR rfl rfl (args_val (vs:=[.int .i64 a0.kind]) rfl) (fun w => enter48 _ w) (fun w hc => frame_Names.val h17 (M:=M7) w (hE15.ext hc) )) ?_
 by_cases hs19_0 : t16 = [116,97]
 ·
  subst hs19_0
  replace h18:=(if_pos (by decide)).symm.trans h18
  refine DL.keep (X:=Nat) (u:=fun b => ptr b 0) (H':=fun b => (some b,.stringIter ⟨#[116,97]⟩ 0) :: [(some b14,.cells (#[s13_v]) 46 (0,0)),(Value.ownBlock s13_v,.cells s13_c 9 (0,0))]) (fun _ p hp => List.mem_cons_of_mem _ hp) (i:=3) rfl (Wn.none rfl) rfl rfl rfl (f_rangeText (s:=⟨#[116,97]⟩) (by kernel_rfl : Tryz.prog.underlying 9 = some .string) rfl rfl) ?_
  intro b20
  refine DL.nil ?_
  refine TT.bk rfl ?_
  refine TT.lp rfl ?_
  refine TT.sq rfl ?_
  refine TT.rg [0,1] [kx,kp] rfl rfl ?_
  refine DL.chr (j:=0) (c:=116) (wd:=1) rfl rfl rfl rfl rfl rfl (by decide) (by kernel_rfl) rfl rfl ?_
  refine DL.pu 19 (.bool true) rfl (p_extract rfl rfl rfl) ?_
  refine DL.nil ?_
  refine TT.sq rfl ?_
  refine TT.ct rfl rfl rfl ?_
  refine TT.skip ?_
  refine TT.bk rfl ?_
  refine TT.sq rfl ?_
  refine TT.rg [0,1] [kp,kp] rfl rfl ?_
  refine DL.pu 20 (.int .i32 116) rfl (p_extract rfl rfl rfl) ?_
  refine DL.pu 6 (.int .i32 116) rfl (p_assign rfl rfl) ?_
  refine DL.nil ?_
  refine TT.sq rfl ?_
  refine TT.rg [0] [kp] rfl rfl ?_
  refine DL.mv 21 (.int .i32 116) rfl rfl rfl ?_
  refine DL.nil ?_
  refine TT.bk rfl ?_
  refine TT.sq rfl ?_
  refine TT.rg [0,1] [kp,kp] rfl rfl ?_
  refine DL.pu 28 (.bool false) rfl (show FPure _ _ _ (.bool ((116 : Int) == (104 : Int))) from p_eql rfl rfl rfl) ?_
  refine DL.pu 27 (.bool false) rfl (p_assign rfl rfl) ?_
  refine DL.nil ?_
  refine TT.cf rfl rfl rfl ?_
  refine TT.sq rfl ?_
  refine TT.rg [0,1] [kp,kp] rfl rfl ?_
  refine DL.pu 36 (.bool false) rfl (show FPure _ _ _ (.bool ((116 : Int) == (111 : Int))) from p_eql rfl rfl rfl) ?_
  refine DL.pu 35 (.bool false) rfl (p_assign rfl rfl) ?_
  refine DL.nil ?_
  refine TT.cf rfl rfl rfl ?_
  refine TT.sq rfl ?_
  refine TT.rg [0,1] [kp,kp] rfl rfl ?_
  refine DL.pu 44 (.bool true) rfl (show FPure _ _ _ (.bool ((116 : Int) == (116 : Int))) from p_eql rfl rfl rfl) ?_
  refine DL.pu 43 (.bool true) rfl (p_assign rfl rfl) ?_
  refine DL.nil ?_
  refine TT.ct rfl rfl rfl ?_
  refine TT.rgD [0,2,3,1,4,5,6] [0,0,0,4,14,30,63] [kp,kF,kp,kq,kp,kq,kx] rfl mixed (by kernel_rfl) ?_
  intro w21 hl21 hj21 hz21
  refine DL.mv 45 (.func (.func 93) #[] #[ptr b14 0]) rfl rfl rfl ?_
  refine DL.pu 47 (ptr b1 4) rfl (p_fieldAddr ty_f33_4 rfl rfl) ?_
  refine DL.qu 48 (.int .i64 a0.typ) rfl (FImm.quiet (i_loadBoxO (I:=M7) (hx7 _ _ hm_2) rfl ty_a29 rfl rfl) (fun w hc => hE15.imm hc)) ?_
  obtain ⟨t22,h23,h24⟩:=bind_some h18
  refine DL.callFf (G:=Value) (u:=fun g => g) (Q:=fun g M_ => (RowS Sh.str M_ g t22)) (A:=[(some b20,.stringIter ⟨#[116,97]⟩ 1),(some b14,.cells (#[s13_v]) 46 (0,0)),(Value.ownBlock s13_v,.cells s13_c 9 (0,0))]) (J:=[]) (fun J25 => ((some b20,.stringIter ⟨#[116,97]⟩ 1) :: (some b14,.cells (#[s13_v]) 46 (0,0)) :: (Value.ownBlock s13_v,.cells s13_c 9 (0,0)) :: J25)) hl21.2.2.2 hE15.nil (List.append_nil _).symm (fun _ => rfl) (by simp) (i:=1) rfl (Wn.none rfl) rfl rfl rfl rfl rfl rfl (args_val (vs:=[]) rfl) (fun w => enter50 _ w) (fun w hc hI => script_types.ok h23 (M:=M7) w hI ) ?_
  rintro t22_v M25 J25 hE25 hx25 hr_t22
  obtain ⟨g26,h27⟩:=req_some h24
  obtain ⟨g28,h29⟩:=req_some h27
  refine DL.pu 49 (elp t22_v a0.typ.toNat) rfl (p_slIx1 ty_u46 ty_s9 (RowS.some hr_t22 g26 g28) g26 g28 rfl rfl rfl) ?_
  refine DL.qu 50 (str (t22.getD a0.typ.toNat [])) rfl (q_loadEl (fun w hc => hE25.immJ (A:=[(some b20,.stringIter ⟨#[116,97]⟩ 1),(some b14,.cells (#[s13_v]) 46 (0,0)),(Value.ownBlock s13_v,.cells s13_c 9 (0,0))]) hc rfl) (RowS.strs hr_t22) (strs_get (lt_len g26 g28)) ty_a9 rfl rfl) ?_
  obtain ⟨g30,h31⟩:=req_some h29
  refine DL.turnMJ (M:=M25) (A:=[(some b20,.stringIter ⟨#[116,97]⟩ 1),(some b14,.cells (#[s13_v]) 46 (0,0)),(Value.ownBlock s13_v,.cells s13_c 9 (0,0))]) (J:=J25) (E:=[(some b14,.cells (#[s13_v]) 46 (0,0)),(Value.ownBlock s13_v,.cells s13_c 9 (0,0))]) (R:=[(some b20,.stringIter ⟨#[116,97]⟩ 1)]) hE25 rfl [1,2,0] rfl rfl (put93 (b:=b14) (OwnS.mono ho_s13 hx25) g30) (args:=#[str (t22.getD a0.typ.toNat [])]) (caps:=#[ptr b14 0]) rfl (i:=6) rfl (Wn.none rfl) rfl rfl rfl rfl rfl rfl (args_val (vs:=[str (t22.getD a0.typ.toNat [])]) rfl) (fun w => enter93 _ w) ?_
  rintro ⟨⟨p32_v,p32_c⟩,ho_p32⟩
  refine DL.nil' hl21 ?_
  refine TT.settle (A:=[(some b14,.cells (#[p32_v]) 46 (0,0)),(Value.ownBlock p32_v,.cells p32_c 9 (0,0)),(some b20,.stringIter ⟨#[116,97]⟩ 1)]) (J:=J25) hE25 ?_
  intro I33 hE33 hxI33
  refine TT.inBlock ?_
  refine TT.inBlock ?_
  refine TT.inLoop ?_
  refine TT.sq rfl ?_
  refine TT.rg [0,1] [kx,kp] rfl rfl ?_
  refine DL.chr (j:=2) (c:=97) (wd:=1) rfl rfl rfl rfl rfl rfl (by decide) (by kernel_rfl) rfl rfl ?_
  refine DL.pu 19 (.bool true) rfl (p_extract rfl rfl rfl) ?_
  refine DL.nil ?_
  refine TT.sq rfl ?_
  refine TT.ct rfl rfl rfl ?_
  refine TT.skip ?_
  refine TT.bk rfl ?_
  refine TT.sq rfl ?_
  refine TT.rg [0,1] [kp,kp] rfl rfl ?_
  refine DL.pu 20 (.int .i32 97) rfl (p_extract rfl rfl rfl) ?_
  refine DL.pu 6 (.int .i32 97) rfl (p_assign rfl rfl) ?_
  refine DL.nil ?_
  refine TT.sq rfl ?_
  refine TT.rg [0] [kp] rfl rfl ?_
  refine DL.mv 21 (.int .i32 97) rfl rfl rfl ?_
  refine DL.nil ?_
  refine TT.bk rfl ?_
  refine TT.sq rfl ?_
  refine TT.rg [0,1] [kp,kp] rfl rfl ?_
  refine DL.pu 28 (.bool false) rfl (show FPure _ _ _ (.bool ((97 : Int) == (104 : Int))) from p_eql rfl rfl rfl) ?_
  refine DL.pu 27 (.bool false) rfl (p_assign rfl rfl) ?_
  refine DL.nil ?_
  refine TT.cf rfl rfl rfl ?_
  refine TT.sq rfl ?_
  refine TT.rg [0,1] [kp,kp] rfl rfl ?_
  refine DL.pu 36 (.bool false) rfl (show FPure _ _ _ (.bool ((97 : Int) == (111 : Int))) from p_eql rfl rfl rfl) ?_
  refine DL.pu 35 (.bool false) rfl (p_assign rfl rfl) ?_
  refine DL.nil ?_
  refine TT.cf rfl rfl rfl ?_
  refine TT.sq rfl ?_
  refine TT.rg [0,1] [kp,kp] rfl rfl ?_
  refine DL.pu 44 (.bool false) rfl (show FPure _ _ _ (.bool ((97 : Int) == (116 : Int))) from p_eql rfl rfl rfl) ?_
  refine DL.pu 43 (.bool false) rfl (p_assign rfl rfl) ?_
  refine DL.nil ?_
  refine TT.cf rfl rfl rfl ?_
  refine TT.sq rfl ?_
  refine TT.rg [0,1] [kp,kp] rfl rfl ?_
  refine DL.pu 53 (.bool true) rfl (show FPure _ _ _ (.bool ((97 : Int) == (97 : Int))) from p_eql rfl rfl rfl) ?_
  refine DL.pu 52 (.bool true) rfl (p_assign rfl rfl) ?_
  refine DL.nil ?_
  refine TT.ct rfl rfl rfl ?_
  refine TT.rg [0,1,2,3,4] [kp,kp,kq,kq,kx] rfl rfl ?_
  refine DL.mv 54 (.func (.func 93) #[] #[ptr b14 0]) rfl rfl rfl ?_
  refine DL.pu 55 (ptr b1 5) rfl (p_fieldAddr ty_f33_5 rfl rfl) ?_
  refine DL.qu 56 (.int .i64 a0.attr) rfl (FImm.quiet (i_loadBoxO (I:=M25) ((hx7.trans hx25) _ _ hm_2) rfl ty_a30 rfl rfl) (fun w hc => hE33.imm hc)) ?_
  obtain ⟨t34,h35,h36⟩:=bind_some h31
  refine DL.qu 57 (str t34) rfl (f_callR rfl rfl (args_val (vs:=[.int .i64 a0.attr]) rfl) (fun w => enter90 _ w) (fun w hc => policy_Text.val h35 (M:=M25) w (hE33.ext hc) )) ?_
  obtain ⟨g37,h38⟩:=req_some h36
  refine DL.turnM (M:=M25) (E:=[(some b14,.cells (#[p32_v]) 46 (0,0)),(Value.ownBlock p32_v,.cells p32_c 9 (0,0))]) (R:=[(some b20,.stringIter ⟨#[116,97]⟩ 2)]) (fun b o e => hE33.mi b o e) [0,1,2] rfl rfl (put93 (b:=b14) ho_p32 g37) (args:=#[str t34]) (caps:=#[ptr b14 0]) rfl (i:=4) rfl (Wn.none rfl) rfl rfl rfl rfl rfl rfl (args_val (vs:=[str t34]) rfl) (fun w => enter93 _ w) ?_
  rintro ⟨⟨p39_v,p39_c⟩,ho_p39⟩
  refine DL.nil ?_
  refine TT.inBlock ?_
  refine TT.inBlock ?_
  refine TT.inLoop ?_
  refine TT.sq rfl ?_
  refine TT.rg [0,1] [kx,kp] rfl rfl ?_
  refine DL.chrE (j:=2) rfl rfl rfl rfl rfl rfl (by decide) rfl rfl ?_
  refine DL.pu 19 (.bool false) rfl (p_extract rfl rfl rfl) ?_
  refine DL.nil ?_
  refine TT.sq rfl ?_
  refine TT.cf rfl rfl rfl ?_
  refine TT.exit rfl ?_
  refine TT.sq rfl ?_
  refine TT.rg [0,1,2] [kq,kq,kp] rfl rfl ?_
  refine DL.qu 66 (p39_v) rfl (f_load (j:=0) ty_a46 rfl rfl rfl rfl) ?_
  obtain ⟨g40,h41⟩:=req_some h38
  obtain ⟨g42,h43⟩:=req_some h41
  obtain ⟨t44,e45,h46⟩:=nm_some h43
  refine DL.qu 67 (str t44) rfl (by rw [e45]; exact f_callR rfl rfl (args_val (vs:=[p39_v,str [32]]) rfl) (fun w => enter69 _ w) (fun w hc => join_ok (i:=1) _ ho_p39 hc rfl g40 g42)) ?_
  refine DL.pu 2 (str t44) rfl (p_assign rfl rfl) ?_
  refine DL.nil ?_
  obtain rfl:=Option.some.inj h46
  exact retnE (rs:=[.tmp 2]) (vs:=[str t44]) hE33.base Tryz.func55 rfl rfl rfl (res_cons (ResV.tmp rfl) res_nil) rfl
 replace h18:=(if_neg (by simpa using hs19_0)).symm.trans h18
 by_cases hs19_1 : t16 = [116,97,107]
 ·
  subst hs19_1
  replace h18:=(if_pos (by decide)).symm.trans h18
  refine DL.keep (X:=Nat) (u:=fun b => ptr b 0) (H':=fun b => (some b,.stringIter ⟨#[116,97,107]⟩ 0) :: [(some b14,.cells (#[s13_v]) 46 (0,0)),(Value.ownBlock s13_v,.cells s13_c 9 (0,0))]) (fun _ p hp => List.mem_cons_of_mem _ hp) (i:=3) rfl (Wn.none rfl) rfl rfl rfl (f_rangeText (s:=⟨#[116,97,107]⟩) (by kernel_rfl : Tryz.prog.underlying 9 = some .string) rfl rfl) ?_
  intro b47
  refine DL.nil ?_
  refine TT.bk rfl ?_
  refine TT.lp rfl ?_
  refine TT.sq rfl ?_
  refine TT.rg [0,1] [kx,kp] rfl rfl ?_
  refine DL.chr (j:=0) (c:=116) (wd:=1) rfl rfl rfl rfl rfl rfl (by decide) (by kernel_rfl) rfl rfl ?_
  refine DL.pu 19 (.bool true) rfl (p_extract rfl rfl rfl) ?_
  refine DL.nil ?_
  refine TT.sq rfl ?_
  refine TT.ct rfl rfl rfl ?_
  refine TT.skip ?_
  refine TT.bk rfl ?_
  refine TT.sq rfl ?_
  refine TT.rg [0,1] [kp,kp] rfl rfl ?_
  refine DL.pu 20 (.int .i32 116) rfl (p_extract rfl rfl rfl) ?_
  refine DL.pu 6 (.int .i32 116) rfl (p_assign rfl rfl) ?_
  refine DL.nil ?_
  refine TT.sq rfl ?_
  refine TT.rg [0] [kp] rfl rfl ?_
  refine DL.mv 21 (.int .i32 116) rfl rfl rfl ?_
  refine DL.nil ?_
  refine TT.bk rfl ?_
  refine TT.sq rfl ?_
  refine TT.rg [0,1] [kp,kp] rfl rfl ?_
  refine DL.pu 28 (.bool false) rfl (show FPure _ _ _ (.bool ((116 : Int) == (104 : Int))) from p_eql rfl rfl rfl) ?_
  refine DL.pu 27 (.bool false) rfl (p_assign rfl rfl) ?_
  refine DL.nil ?_
  refine TT.cf rfl rfl rfl ?_
  refine TT.sq rfl ?_
  refine TT.rg [0,1] [kp,kp] rfl rfl ?_
  refine DL.pu 36 (.bool false) rfl (show FPure _ _ _ (.bool ((116 : Int) == (111 : Int))) from p_eql rfl rfl rfl) ?_
  refine DL.pu 35 (.bool false) rfl (p_assign rfl rfl) ?_
  refine DL.nil ?_
  refine TT.cf rfl rfl rfl ?_
  refine TT.sq rfl ?_
  refine TT.rg [0,1] [kp,kp] rfl rfl ?_
  refine DL.pu 44 (.bool true) rfl (show FPure _ _ _ (.bool ((116 : Int) == (116 : Int))) from p_eql rfl rfl rfl) ?_
  refine DL.pu 43 (.bool true) rfl (p_assign rfl rfl) ?_
  refine DL.nil ?_
  refine TT.ct rfl rfl rfl ?_
  refine TT.rgD [0,2,3,1,4,5,6] [0,0,0,4,14,30,63] [kp,kF,kp,kq,kp,kq,kx] rfl mixed (by kernel_rfl) ?_
  intro w48 hl48 hj48 hz48
  refine DL.mv 45 (.func (.func 93) #[] #[ptr b14 0]) rfl rfl rfl ?_
  refine DL.pu 47 (ptr b1 4) rfl (p_fieldAddr ty_f33_4 rfl rfl) ?_
  refine DL.qu 48 (.int .i64 a0.typ) rfl (FImm.quiet (i_loadBoxO (I:=M7) (hx7 _ _ hm_2) rfl ty_a29 rfl rfl) (fun w hc => hE15.imm hc)) ?_
  obtain ⟨t49,h50,h51⟩:=bind_some h18
  refine DL.callFf (G:=Value) (u:=fun g => g) (Q:=fun g M_ => (RowS Sh.str M_ g t49)) (A:=[(some b47,.stringIter ⟨#[116,97,107]⟩ 1),(some b14,.cells (#[s13_v]) 46 (0,0)),(Value.ownBlock s13_v,.cells s13_c 9 (0,0))]) (J:=[]) (fun J52 => ((some b47,.stringIter ⟨#[116,97,107]⟩ 1) :: (some b14,.cells (#[s13_v]) 46 (0,0)) :: (Value.ownBlock s13_v,.cells s13_c 9 (0,0)) :: J52)) hl48.2.2.2 hE15.nil (List.append_nil _).symm (fun _ => rfl) (by simp) (i:=1) rfl (Wn.none rfl) rfl rfl rfl rfl rfl rfl (args_val (vs:=[]) rfl) (fun w => enter50 _ w) (fun w hc hI => script_types.ok h50 (M:=M7) w hI ) ?_
  rintro t49_v M52 J52 hE52 hx52 hr_t49
  obtain ⟨g53,h54⟩:=req_some h51
  obtain ⟨g55,h56⟩:=req_some h54
  refine DL.pu 49 (elp t49_v a0.typ.toNat) rfl (p_slIx1 ty_u46 ty_s9 (RowS.some hr_t49 g53 g55) g53 g55 rfl rfl rfl) ?_
  refine DL.qu 50 (str (t49.getD a0.typ.toNat [])) rfl (q_loadEl (fun w hc => hE52.immJ (A:=[(some b47,.stringIter ⟨#[116,97,107]⟩ 1),(some b14,.cells (#[s13_v]) 46 (0,0)),(Value.ownBlock s13_v,.cells s13_c 9 (0,0))]) hc rfl) (RowS.strs hr_t49) (strs_get (lt_len g53 g55)) ty_a9 rfl rfl) ?_
  obtain ⟨g57,h58⟩:=req_some h56
  refine DL.turnMJ (M:=M52) (A:=[(some b47,.stringIter ⟨#[116,97,107]⟩ 1),(some b14,.cells (#[s13_v]) 46 (0,0)),(Value.ownBlock s13_v,.cells s13_c 9 (0,0))]) (J:=J52) (E:=[(some b14,.cells (#[s13_v]) 46 (0,0)),(Value.ownBlock s13_v,.cells s13_c 9 (0,0))]) (R:=[(some b47,.stringIter ⟨#[116,97,107]⟩ 1)]) hE52 rfl [1,2,0] rfl rfl (put93 (b:=b14) (OwnS.mono ho_s13 hx52) g57) (args:=#[str (t49.getD a0.typ.toNat [])]) (caps:=#[ptr b14 0]) rfl (i:=6) rfl (Wn.none rfl) rfl rfl rfl rfl rfl rfl (args_val (vs:=[str (t49.getD a0.typ.toNat [])]) rfl) (fun w => enter93 _ w) ?_
  rintro ⟨⟨p59_v,p59_c⟩,ho_p59⟩
  refine DL.nil' hl48 ?_
  refine TT.settle (A:=[(some b14,.cells (#[p59_v]) 46 (0,0)),(Value.ownBlock p59_v,.cells p59_c 9 (0,0)),(some b47,.stringIter ⟨#[116,97,107]⟩ 1)]) (J:=J52) hE52 ?_
  intro I60 hE60 hxI60
  refine TT.inBlock ?_
  refine TT.inBlock ?_
  refine TT.inLoop ?_
  refine TT.sq rfl ?_
  refine TT.rg [0,1] [kx,kp] rfl rfl ?_
  refine DL.chr (j:=2) (c:=97) (wd:=1) rfl rfl rfl rfl rfl rfl (by decide) (by kernel_rfl) rfl rfl ?_
  refine DL.pu 19 (.bool true) rfl (p_extract rfl rfl rfl) ?_
  refine DL.nil ?_
  refine TT.sq rfl ?_
  refine TT.ct rfl rfl rfl ?_
  refine TT.skip ?_
  refine TT.bk rfl ?_
  refine TT.sq rfl ?_
  refine TT.rg [0,1] [kp,kp] rfl rfl ?_
  refine DL.pu 20 (.int .i32 97) rfl (p_extract rfl rfl rfl) ?_
  refine DL.pu 6 (.int .i32 97) rfl (p_assign rfl rfl) ?_
  refine DL.nil ?_
  refine TT.sq rfl ?_
  refine TT.rg [0] [kp] rfl rfl ?_
  refine DL.mv 21 (.int .i32 97) rfl rfl rfl ?_
  refine DL.nil ?_
  refine TT.bk rfl ?_
  refine TT.sq rfl ?_
  refine TT.rg [0,1] [kp,kp] rfl rfl ?_
  refine DL.pu 28 (.bool false) rfl (show FPure _ _ _ (.bool ((97 : Int) == (104 : Int))) from p_eql rfl rfl rfl) ?_
  refine DL.pu 27 (.bool false) rfl (p_assign rfl rfl) ?_
  refine DL.nil ?_
  refine TT.cf rfl rfl rfl ?_
  refine TT.sq rfl ?_
  refine TT.rg [0,1] [kp,kp] rfl rfl ?_
  refine DL.pu 36 (.bool false) rfl (show FPure _ _ _ (.bool ((97 : Int) == (111 : Int))) from p_eql rfl rfl rfl) ?_
  refine DL.pu 35 (.bool false) rfl (p_assign rfl rfl) ?_
  refine DL.nil ?_
  refine TT.cf rfl rfl rfl ?_
  refine TT.sq rfl ?_
  refine TT.rg [0,1] [kp,kp] rfl rfl ?_
  refine DL.pu 44 (.bool false) rfl (show FPure _ _ _ (.bool ((97 : Int) == (116 : Int))) from p_eql rfl rfl rfl) ?_
  refine DL.pu 43 (.bool false) rfl (p_assign rfl rfl) ?_
  refine DL.nil ?_
  refine TT.cf rfl rfl rfl ?_
  refine TT.sq rfl ?_
  refine TT.rg [0,1] [kp,kp] rfl rfl ?_
  refine DL.pu 53 (.bool true) rfl (show FPure _ _ _ (.bool ((97 : Int) == (97 : Int))) from p_eql rfl rfl rfl) ?_
  refine DL.pu 52 (.bool true) rfl (p_assign rfl rfl) ?_
  refine DL.nil ?_
  refine TT.ct rfl rfl rfl ?_
  refine TT.rg [0,1,2,3,4] [kp,kp,kq,kq,kx] rfl rfl ?_
  refine DL.mv 54 (.func (.func 93) #[] #[ptr b14 0]) rfl rfl rfl ?_
  refine DL.pu 55 (ptr b1 5) rfl (p_fieldAddr ty_f33_5 rfl rfl) ?_
  refine DL.qu 56 (.int .i64 a0.attr) rfl (FImm.quiet (i_loadBoxO (I:=M52) ((hx7.trans hx52) _ _ hm_2) rfl ty_a30 rfl rfl) (fun w hc => hE60.imm hc)) ?_
  obtain ⟨t61,h62,h63⟩:=bind_some h58
  refine DL.qu 57 (str t61) rfl (f_callR rfl rfl (args_val (vs:=[.int .i64 a0.attr]) rfl) (fun w => enter90 _ w) (fun w hc => policy_Text.val h62 (M:=M52) w (hE60.ext hc) )) ?_
  obtain ⟨g64,h65⟩:=req_some h63
  refine DL.turnM (M:=M52) (E:=[(some b14,.cells (#[p59_v]) 46 (0,0)),(Value.ownBlock p59_v,.cells p59_c 9 (0,0))]) (R:=[(some b47,.stringIter ⟨#[116,97,107]⟩ 2)]) (fun b o e => hE60.mi b o e) [0,1,2] rfl rfl (put93 (b:=b14) ho_p59 g64) (args:=#[str t61]) (caps:=#[ptr b14 0]) rfl (i:=4) rfl (Wn.none rfl) rfl rfl rfl rfl rfl rfl (args_val (vs:=[str t61]) rfl) (fun w => enter93 _ w) ?_
  rintro ⟨⟨p66_v,p66_c⟩,ho_p66⟩
  refine DL.nil ?_
  refine TT.inBlock ?_
  refine TT.inBlock ?_
  refine TT.inLoop ?_
  refine TT.sq rfl ?_
  refine TT.rg [0,1] [kx,kp] rfl rfl ?_
  refine DL.chr (j:=2) (c:=107) (wd:=1) rfl rfl rfl rfl rfl rfl (by decide) (by kernel_rfl) rfl rfl ?_
  refine DL.pu 19 (.bool true) rfl (p_extract rfl rfl rfl) ?_
  refine DL.nil ?_
  refine TT.sq rfl ?_
  refine TT.ct rfl rfl rfl ?_
  refine TT.skip ?_
  refine TT.bk rfl ?_
  refine TT.sq rfl ?_
  refine TT.rg [0,1] [kp,kp] rfl rfl ?_
  refine DL.pu 20 (.int .i32 107) rfl (p_extract rfl rfl rfl) ?_
  refine DL.pu 6 (.int .i32 107) rfl (p_assign rfl rfl) ?_
  refine DL.nil ?_
  refine TT.sq rfl ?_
  refine TT.rg [0] [kp] rfl rfl ?_
  refine DL.mv 21 (.int .i32 107) rfl rfl rfl ?_
  refine DL.nil ?_
  refine TT.bk rfl ?_
  refine TT.sq rfl ?_
  refine TT.rg [0,1] [kp,kp] rfl rfl ?_
  refine DL.pu 28 (.bool false) rfl (show FPure _ _ _ (.bool ((107 : Int) == (104 : Int))) from p_eql rfl rfl rfl) ?_
  refine DL.pu 27 (.bool false) rfl (p_assign rfl rfl) ?_
  refine DL.nil ?_
  refine TT.cf rfl rfl rfl ?_
  refine TT.sq rfl ?_
  refine TT.rg [0,1] [kp,kp] rfl rfl ?_
  refine DL.pu 36 (.bool false) rfl (show FPure _ _ _ (.bool ((107 : Int) == (111 : Int))) from p_eql rfl rfl rfl) ?_
  refine DL.pu 35 (.bool false) rfl (p_assign rfl rfl) ?_
  refine DL.nil ?_
  refine TT.cf rfl rfl rfl ?_
  refine TT.sq rfl ?_
  refine TT.rg [0,1] [kp,kp] rfl rfl ?_
  refine DL.pu 44 (.bool false) rfl (show FPure _ _ _ (.bool ((107 : Int) == (116 : Int))) from p_eql rfl rfl rfl) ?_
  refine DL.pu 43 (.bool false) rfl (p_assign rfl rfl) ?_
  refine DL.nil ?_
  refine TT.cf rfl rfl rfl ?_
  refine TT.sq rfl ?_
  refine TT.rg [0,1] [kp,kp] rfl rfl ?_
  refine DL.pu 53 (.bool false) rfl (show FPure _ _ _ (.bool ((107 : Int) == (97 : Int))) from p_eql rfl rfl rfl) ?_
  refine DL.pu 52 (.bool false) rfl (p_assign rfl rfl) ?_
  refine DL.nil ?_
  refine TT.cf rfl rfl rfl ?_
  refine TT.sq rfl ?_
  refine TT.rg [0,1] [kp,kp] rfl rfl ?_
  refine DL.pu 60 (.bool true) rfl (show FPure _ _ _ (.bool ((107 : Int) == (107 : Int))) from p_eql rfl rfl rfl) ?_
  refine DL.pu 59 (.bool true) rfl (p_assign rfl rfl) ?_
  refine DL.nil ?_
  refine TT.ct rfl rfl rfl ?_
  refine TT.rg [0,1,2,3,4] [kp,kp,kp,kq,kx] rfl rfl ?_
  refine DL.mv 61 (.func (.func 93) #[] #[ptr b14 0]) rfl rfl rfl ?_
  refine DL.pu 62 (ptr b1 6) rfl (p_fieldAddr ty_f33_6 rfl rfl) ?_
  obtain ⟨v67,v67_e⟩ : ∃ u,u = Value.slice (some ⟨b1,6,none⟩) 32 32:=⟨_,rfl⟩
  have hr_v67 : IntRow M52 .u8 v67 (pad32 a0.key):=by rw [v67_e]; exact row_of_box ((hx7.trans hx52) _ _ hm_2) rfl rfl
  refine DL.pu 63 (v67) rfl (by rw [v67_e]; exact p_sliceBox (fun w => by kernel_rfl) rfl rfl) ?_
  obtain ⟨t68,h69,h70⟩:=bind_some h65
  refine DL.qu 64 (str t68) rfl (f_callR rfl rfl (args_val (vs:=[v67]) rfl) (fun w => enter86 _ w) (fun w hc => wire_Hex.val h69 (M:=M52) w (hE60.ext hc) hr_v67)) ?_
  obtain ⟨g71,h72⟩:=req_some h70
  refine DL.turnM (M:=M52) (E:=[(some b14,.cells (#[p66_v]) 46 (0,0)),(Value.ownBlock p66_v,.cells p66_c 9 (0,0))]) (R:=[(some b47,.stringIter ⟨#[116,97,107]⟩ 3)]) (fun b o e => hE60.mi b o e) [0,1,2] rfl rfl (put93 (b:=b14) ho_p66 g71) (args:=#[str t68]) (caps:=#[ptr b14 0]) rfl (i:=4) rfl (Wn.none rfl) rfl rfl rfl rfl rfl rfl (args_val (vs:=[str t68]) rfl) (fun w => enter93 _ w) ?_
  rintro ⟨⟨p73_v,p73_c⟩,ho_p73⟩
  refine DL.nil ?_
  refine TT.inBlock ?_
  refine TT.inBlock ?_
  refine TT.inLoop ?_
  refine TT.sq rfl ?_
  refine TT.rg [0,1] [kx,kp] rfl rfl ?_
  refine DL.chrE (j:=2) rfl rfl rfl rfl rfl rfl (by decide) rfl rfl ?_
  refine DL.pu 19 (.bool false) rfl (p_extract rfl rfl rfl) ?_
  refine DL.nil ?_
  refine TT.sq rfl ?_
  refine TT.cf rfl rfl rfl ?_
  refine TT.exit rfl ?_
  refine TT.sq rfl ?_
  refine TT.rg [0,1,2] [kq,kq,kp] rfl rfl ?_
  refine DL.qu 66 (p73_v) rfl (f_load (j:=0) ty_a46 rfl rfl rfl rfl) ?_
  obtain ⟨g74,h75⟩:=req_some h72
  obtain ⟨g76,h77⟩:=req_some h75
  obtain ⟨t78,e79,h80⟩:=nm_some h77
  refine DL.qu 67 (str t78) rfl (by rw [e79]; exact f_callR rfl rfl (args_val (vs:=[p73_v,str [32]]) rfl) (fun w => enter69 _ w) (fun w hc => join_ok (i:=1) _ ho_p73 hc rfl g74 g76)) ?_
  refine DL.pu 2 (str t78) rfl (p_assign rfl rfl) ?_
  refine DL.nil ?_
  obtain rfl:=Option.some.inj h80
  exact retnE (rs:=[.tmp 2]) (vs:=[str t78]) hE60.base Tryz.func55 rfl rfl rfl (res_cons (ResV.tmp rfl) res_nil) rfl
 replace h18:=(if_neg (by simpa using hs19_1)).symm.trans h18
 by_cases hs19_2 : t16 = [104]
 ·
  subst hs19_2
  replace h18:=(if_pos (by decide)).symm.trans h18
  refine DL.keep (X:=Nat) (u:=fun b => ptr b 0) (H':=fun b => (some b,.stringIter ⟨#[104]⟩ 0) :: [(some b14,.cells (#[s13_v]) 46 (0,0)),(Value.ownBlock s13_v,.cells s13_c 9 (0,0))]) (fun _ p hp => List.mem_cons_of_mem _ hp) (i:=3) rfl (Wn.none rfl) rfl rfl rfl (f_rangeText (s:=⟨#[104]⟩) (by kernel_rfl : Tryz.prog.underlying 9 = some .string) rfl rfl) ?_
  intro b81
  refine DL.nil ?_
  refine TT.bk rfl ?_
  refine TT.lp rfl ?_
  refine TT.sq rfl ?_
  refine TT.rg [0,1] [kx,kp] rfl rfl ?_
  refine DL.chr (j:=0) (c:=104) (wd:=1) rfl rfl rfl rfl rfl rfl (by decide) (by kernel_rfl) rfl rfl ?_
  refine DL.pu 19 (.bool true) rfl (p_extract rfl rfl rfl) ?_
  refine DL.nil ?_
  refine TT.sq rfl ?_
  refine TT.ct rfl rfl rfl ?_
  refine TT.skip ?_
  refine TT.bk rfl ?_
  refine TT.sq rfl ?_
  refine TT.rg [0,1] [kp,kp] rfl rfl ?_
  refine DL.pu 20 (.int .i32 104) rfl (p_extract rfl rfl rfl) ?_
  refine DL.pu 6 (.int .i32 104) rfl (p_assign rfl rfl) ?_
  refine DL.nil ?_
  refine TT.sq rfl ?_
  refine TT.rg [0] [kp] rfl rfl ?_
  refine DL.mv 21 (.int .i32 104) rfl rfl rfl ?_
  refine DL.nil ?_
  refine TT.bk rfl ?_
  refine TT.sq rfl ?_
  refine TT.rg [0,1] [kp,kp] rfl rfl ?_
  refine DL.pu 28 (.bool true) rfl (show FPure _ _ _ (.bool ((104 : Int) == (104 : Int))) from p_eql rfl rfl rfl) ?_
  refine DL.pu 27 (.bool true) rfl (p_assign rfl rfl) ?_
  refine DL.nil ?_
  refine TT.ct rfl rfl rfl ?_
  refine TT.rg [0,1,2,3,4,5] [kp,kp,kq,kp,kq,kx] rfl rfl ?_
  refine DL.mv 29 (.func (.func 93) #[] #[ptr b14 0]) rfl rfl rfl ?_
  refine DL.pu 30 (ptr b1 2) rfl (p_fieldAddr ty_f33_2 rfl rfl) ?_
  refine DL.qu 31 (.int .u32 a0.handle) rfl (FImm.quiet (i_loadBoxO (I:=M7) (hx7 _ _ hm_2) rfl ty_a28 rfl rfl) (fun w hc => hE15.imm hc)) ?_
  refine DL.pu 32 (.int .i64 (IntKind.i64.wrap a0.handle)) rfl (p_conv ty_u28 ty_u3 ⟨_,rfl⟩ rfl rfl) ?_
  obtain ⟨g82,h83⟩:=req_some h18
  obtain ⟨g84,h85⟩:=req_some h83
  obtain ⟨t86,e87,h88⟩:=nm_some h85
  refine DL.qu 33 (str t86) rfl (by rw [e87]; exact f_callR rfl rfl (args_val (vs:=[.int .i64 (IntKind.i64.wrap a0.handle)]) rfl) (fun w => enter63 _ w) (fun w hc => itoa_ok (Glob.mono hG (hx2.trans hx7)) _ g82 g84 w (hE15.ext hc))) ?_
  obtain ⟨g89,h90⟩:=req_some h88
  refine DL.turnM (M:=M7) (E:=[(some b14,.cells (#[s13_v]) 46 (0,0)),(Value.ownBlock s13_v,.cells s13_c 9 (0,0))]) (R:=[(some b81,.stringIter ⟨#[104]⟩ 1)]) (fun b o e => hE15.mi b o e) [1,2,0] rfl rfl (put93 (b:=b14) ho_s13 g89) (args:=#[str t86]) (caps:=#[ptr b14 0]) rfl (i:=5) rfl (Wn.none rfl) rfl rfl rfl rfl rfl rfl (args_val (vs:=[str t86]) rfl) (fun w => enter93 _ w) ?_
  rintro ⟨⟨p91_v,p91_c⟩,ho_p91⟩
  refine DL.nil ?_
  refine TT.inBlock ?_
  refine TT.inBlock ?_
  refine TT.inLoop ?_
  refine TT.sq rfl ?_
  refine TT.rg [0,1] [kx,kp] rfl rfl ?_
  refine DL.chrE (j:=2) rfl rfl rfl rfl rfl rfl (by decide) rfl rfl ?_
  refine DL.pu 19 (.bool false) rfl (p_extract rfl rfl rfl) ?_
  refine DL.nil ?_
  refine TT.sq rfl ?_
  refine TT.cf rfl rfl rfl ?_
  refine TT.exit rfl ?_
  refine TT.sq rfl ?_
  refine TT.rg [0,1,2] [kq,kq,kp] rfl rfl ?_
  refine DL.qu 66 (p91_v) rfl (f_load (j:=0) ty_a46 rfl rfl rfl rfl) ?_
  obtain ⟨g92,h93⟩:=req_some h90
  obtain ⟨g94,h95⟩:=req_some h93
  obtain ⟨t96,e97,h98⟩:=nm_some h95
  refine DL.qu 67 (str t96) rfl (by rw [e97]; exact f_callR rfl rfl (args_val (vs:=[p91_v,str [32]]) rfl) (fun w => enter69 _ w) (fun w hc => join_ok (i:=1) _ ho_p91 hc rfl g92 g94)) ?_
  refine DL.pu 2 (str t96) rfl (p_assign rfl rfl) ?_
  refine DL.nil ?_
  obtain rfl:=Option.some.inj h98
  exact retnE (rs:=[.tmp 2]) (vs:=[str t96]) hE15.base Tryz.func55 rfl rfl rfl (res_cons (ResV.tmp rfl) res_nil) rfl
 replace h18:=(if_neg (by simpa using hs19_2)).symm.trans h18
 by_cases hs19_3 : t16 = [104,100]
 ·
  subst hs19_3
  replace h18:=(if_pos (by decide)).symm.trans h18
  refine DL.keep (X:=Nat) (u:=fun b => ptr b 0) (H':=fun b => (some b,.stringIter ⟨#[104,100]⟩ 0) :: [(some b14,.cells (#[s13_v]) 46 (0,0)),(Value.ownBlock s13_v,.cells s13_c 9 (0,0))]) (fun _ p hp => List.mem_cons_of_mem _ hp) (i:=3) rfl (Wn.none rfl) rfl rfl rfl (f_rangeText (s:=⟨#[104,100]⟩) (by kernel_rfl : Tryz.prog.underlying 9 = some .string) rfl rfl) ?_
  intro b99
  refine DL.nil ?_
  refine TT.bk rfl ?_
  refine TT.lp rfl ?_
  refine TT.sq rfl ?_
  refine TT.rg [0,1] [kx,kp] rfl rfl ?_
  refine DL.chr (j:=0) (c:=104) (wd:=1) rfl rfl rfl rfl rfl rfl (by decide) (by kernel_rfl) rfl rfl ?_
  refine DL.pu 19 (.bool true) rfl (p_extract rfl rfl rfl) ?_
  refine DL.nil ?_
  refine TT.sq rfl ?_
  refine TT.ct rfl rfl rfl ?_
  refine TT.skip ?_
  refine TT.bk rfl ?_
  refine TT.sq rfl ?_
  refine TT.rg [0,1] [kp,kp] rfl rfl ?_
  refine DL.pu 20 (.int .i32 104) rfl (p_extract rfl rfl rfl) ?_
  refine DL.pu 6 (.int .i32 104) rfl (p_assign rfl rfl) ?_
  refine DL.nil ?_
  refine TT.sq rfl ?_
  refine TT.rg [0] [kp] rfl rfl ?_
  refine DL.mv 21 (.int .i32 104) rfl rfl rfl ?_
  refine DL.nil ?_
  refine TT.bk rfl ?_
  refine TT.sq rfl ?_
  refine TT.rg [0,1] [kp,kp] rfl rfl ?_
  refine DL.pu 28 (.bool true) rfl (show FPure _ _ _ (.bool ((104 : Int) == (104 : Int))) from p_eql rfl rfl rfl) ?_
  refine DL.pu 27 (.bool true) rfl (p_assign rfl rfl) ?_
  refine DL.nil ?_
  refine TT.ct rfl rfl rfl ?_
  refine TT.rg [0,1,2,3,4,5] [kp,kp,kq,kp,kq,kx] rfl rfl ?_
  refine DL.mv 29 (.func (.func 93) #[] #[ptr b14 0]) rfl rfl rfl ?_
  refine DL.pu 30 (ptr b1 2) rfl (p_fieldAddr ty_f33_2 rfl rfl) ?_
  refine DL.qu 31 (.int .u32 a0.handle) rfl (FImm.quiet (i_loadBoxO (I:=M7) (hx7 _ _ hm_2) rfl ty_a28 rfl rfl) (fun w hc => hE15.imm hc)) ?_
  refine DL.pu 32 (.int .i64 (IntKind.i64.wrap a0.handle)) rfl (p_conv ty_u28 ty_u3 ⟨_,rfl⟩ rfl rfl) ?_
  obtain ⟨g100,h101⟩:=req_some h18
  obtain ⟨g102,h103⟩:=req_some h101
  obtain ⟨t104,e105,h106⟩:=nm_some h103
  refine DL.qu 33 (str t104) rfl (by rw [e105]; exact f_callR rfl rfl (args_val (vs:=[.int .i64 (IntKind.i64.wrap a0.handle)]) rfl) (fun w => enter63 _ w) (fun w hc => itoa_ok (Glob.mono hG (hx2.trans hx7)) _ g100 g102 w (hE15.ext hc))) ?_
  obtain ⟨g107,h108⟩:=req_some h106
  refine DL.turnM (M:=M7) (E:=[(some b14,.cells (#[s13_v]) 46 (0,0)),(Value.ownBlock s13_v,.cells s13_c 9 (0,0))]) (R:=[(some b99,.stringIter ⟨#[104,100]⟩ 1)]) (fun b o e => hE15.mi b o e) [1,2,0] rfl rfl (put93 (b:=b14) ho_s13 g107) (args:=#[str t104]) (caps:=#[ptr b14 0]) rfl (i:=5) rfl (Wn.none rfl) rfl rfl rfl rfl rfl rfl (args_val (vs:=[str t104]) rfl) (fun w => enter93 _ w) ?_
  rintro ⟨⟨p109_v,p109_c⟩,ho_p109⟩
  refine DL.nil ?_
  refine TT.inBlock ?_
  refine TT.inBlock ?_
  refine TT.inLoop ?_
  refine TT.sq rfl ?_
  refine TT.rg [0,1] [kx,kp] rfl rfl ?_
  refine DL.chr (j:=2) (c:=100) (wd:=1) rfl rfl rfl rfl rfl rfl (by decide) (by kernel_rfl) rfl rfl ?_
  refine DL.pu 19 (.bool true) rfl (p_extract rfl rfl rfl) ?_
  refine DL.nil ?_
  refine TT.sq rfl ?_
  refine TT.ct rfl rfl rfl ?_
  refine TT.skip ?_
  refine TT.bk rfl ?_
  refine TT.sq rfl ?_
  refine TT.rg [0,1] [kp,kp] rfl rfl ?_
  refine DL.pu 20 (.int .i32 100) rfl (p_extract rfl rfl rfl) ?_
  refine DL.pu 6 (.int .i32 100) rfl (p_assign rfl rfl) ?_
  refine DL.nil ?_
  refine TT.sq rfl ?_
  refine TT.rg [0] [kp] rfl rfl ?_
  refine DL.mv 21 (.int .i32 100) rfl rfl rfl ?_
  refine DL.nil ?_
  refine TT.bk rfl ?_
  refine TT.sq rfl ?_
  refine TT.rg [0,1] [kp,kp] rfl rfl ?_
  refine DL.pu 28 (.bool false) rfl (show FPure _ _ _ (.bool ((100 : Int) == (104 : Int))) from p_eql rfl rfl rfl) ?_
  refine DL.pu 27 (.bool false) rfl (p_assign rfl rfl) ?_
  refine DL.nil ?_
  refine TT.cf rfl rfl rfl ?_
  refine TT.sq rfl ?_
  refine TT.rg [0,1] [kp,kp] rfl rfl ?_
  refine DL.pu 36 (.bool false) rfl (show FPure _ _ _ (.bool ((100 : Int) == (111 : Int))) from p_eql rfl rfl rfl) ?_
  refine DL.pu 35 (.bool false) rfl (p_assign rfl rfl) ?_
  refine DL.nil ?_
  refine TT.cf rfl rfl rfl ?_
  refine TT.sq rfl ?_
  refine TT.rg [0,1] [kp,kp] rfl rfl ?_
  refine DL.pu 44 (.bool false) rfl (show FPure _ _ _ (.bool ((100 : Int) == (116 : Int))) from p_eql rfl rfl rfl) ?_
  refine DL.pu 43 (.bool false) rfl (p_assign rfl rfl) ?_
  refine DL.nil ?_
  refine TT.cf rfl rfl rfl ?_
  refine TT.sq rfl ?_
  refine TT.rg [0,1] [kp,kp] rfl rfl ?_
  refine DL.pu 53 (.bool false) rfl (show FPure _ _ _ (.bool ((100 : Int) == (97 : Int))) from p_eql rfl rfl rfl) ?_
  refine DL.pu 52 (.bool false) rfl (p_assign rfl rfl) ?_
  refine DL.nil ?_
  refine TT.cf rfl rfl rfl ?_
  refine TT.sq rfl ?_
  refine TT.rg [0,1] [kp,kp] rfl rfl ?_
  refine DL.pu 60 (.bool false) rfl (show FPure _ _ _ (.bool ((100 : Int) == (107 : Int))) from p_eql rfl rfl rfl) ?_
  refine DL.pu 59 (.bool false) rfl (p_assign rfl rfl) ?_
  refine DL.nil ?_
  refine TT.cf rfl rfl rfl ?_
  refine TT.rg [0,1,2,3,4] [kp,kp,kq,kq,kx] rfl rfl ?_
  refine DL.mv 22 (.func (.func 93) #[] #[ptr b14 0]) rfl rfl rfl ?_
  refine DL.pu 23 (ptr b1 38) rfl (p_fieldAddr ty_f33_7 rfl rfl) ?_
  refine DL.qu 24 (a0_38) rfl (FImm.quiet (i_loadBoxO (I:=M7) (hx7 _ _ hm_2) rfl ty_a31 rfl rfl) (fun w hc => hE15.imm hc)) ?_
  obtain ⟨t110,h111,h112⟩:=bind_some h108
  refine DL.qu 25 (str t110) rfl (f_callR rfl rfl (args_val (vs:=[a0_38]) rfl) (fun w => enter68 _ w) (fun w hc => script_digits.val h111 (M:=M7) w (hE15.ext hc) (IntRow.mono hr_a0_38 (hx2.trans hx7)))) ?_
  obtain ⟨g113,h114⟩:=req_some h112
  refine DL.turnM (M:=M7) (E:=[(some b14,.cells (#[p109_v]) 46 (0,0)),(Value.ownBlock p109_v,.cells p109_c 9 (0,0))]) (R:=[(some b99,.stringIter ⟨#[104,100]⟩ 2)]) (fun b o e => hE15.mi b o e) [0,1,2] rfl rfl (put93 (b:=b14) ho_p109 g113) (args:=#[str t110]) (caps:=#[ptr b14 0]) rfl (i:=4) rfl (Wn.none rfl) rfl rfl rfl rfl rfl rfl (args_val (vs:=[str t110]) rfl) (fun w => enter93 _ w) ?_
  rintro ⟨⟨p115_v,p115_c⟩,ho_p115⟩
  refine DL.nil ?_
  refine TT.inBlock ?_
  refine TT.inBlock ?_
  refine TT.inLoop ?_
  refine TT.sq rfl ?_
  refine TT.rg [0,1] [kx,kp] rfl rfl ?_
  refine DL.chrE (j:=2) rfl rfl rfl rfl rfl rfl (by decide) rfl rfl ?_
  refine DL.pu 19 (.bool false) rfl (p_extract rfl rfl rfl) ?_
  refine DL.nil ?_
  refine TT.sq rfl ?_
  refine TT.cf rfl rfl rfl ?_
  refine TT.exit rfl ?_
  refine TT.sq rfl ?_
  refine TT.rg [0,1,2] [kq,kq,kp] rfl rfl ?_
  refine DL.qu 66 (p115_v) rfl (f_load (j:=0) ty_a46 rfl rfl rfl rfl) ?_
  obtain ⟨g116,h117⟩:=req_some h114
  obtain ⟨g118,h119⟩:=req_some h117
  obtain ⟨t120,e121,h122⟩:=nm_some h119
  refine DL.qu 67 (str t120) rfl (by rw [e121]; exact f_callR rfl rfl (args_val (vs:=[p115_v,str [32]]) rfl) (fun w => enter69 _ w) (fun w hc => join_ok (i:=1) _ ho_p115 hc rfl g116 g118)) ?_
  refine DL.pu 2 (str t120) rfl (p_assign rfl rfl) ?_
  refine DL.nil ?_
  obtain rfl:=Option.some.inj h122
  exact retnE (rs:=[.tmp 2]) (vs:=[str t120]) hE15.base Tryz.func55 rfl rfl rfl (res_cons (ResV.tmp rfl) res_nil) rfl
 replace h18:=(if_neg (by simpa using hs19_3)).symm.trans h18
 by_cases hs19_4 : t16 = [104,111]
 ·
  subst hs19_4
  replace h18:=(if_pos (by decide)).symm.trans h18
  refine DL.keep (X:=Nat) (u:=fun b => ptr b 0) (H':=fun b => (some b,.stringIter ⟨#[104,111]⟩ 0) :: [(some b14,.cells (#[s13_v]) 46 (0,0)),(Value.ownBlock s13_v,.cells s13_c 9 (0,0))]) (fun _ p hp => List.mem_cons_of_mem _ hp) (i:=3) rfl (Wn.none rfl) rfl rfl rfl (f_rangeText (s:=⟨#[104,111]⟩) (by kernel_rfl : Tryz.prog.underlying 9 = some .string) rfl rfl) ?_
  intro b123
  refine DL.nil ?_
  refine TT.bk rfl ?_
  refine TT.lp rfl ?_
  refine TT.sq rfl ?_
  refine TT.rg [0,1] [kx,kp] rfl rfl ?_
  refine DL.chr (j:=0) (c:=104) (wd:=1) rfl rfl rfl rfl rfl rfl (by decide) (by kernel_rfl) rfl rfl ?_
  refine DL.pu 19 (.bool true) rfl (p_extract rfl rfl rfl) ?_
  refine DL.nil ?_
  refine TT.sq rfl ?_
  refine TT.ct rfl rfl rfl ?_
  refine TT.skip ?_
  refine TT.bk rfl ?_
  refine TT.sq rfl ?_
  refine TT.rg [0,1] [kp,kp] rfl rfl ?_
  refine DL.pu 20 (.int .i32 104) rfl (p_extract rfl rfl rfl) ?_
  refine DL.pu 6 (.int .i32 104) rfl (p_assign rfl rfl) ?_
  refine DL.nil ?_
  refine TT.sq rfl ?_
  refine TT.rg [0] [kp] rfl rfl ?_
  refine DL.mv 21 (.int .i32 104) rfl rfl rfl ?_
  refine DL.nil ?_
  refine TT.bk rfl ?_
  refine TT.sq rfl ?_
  refine TT.rg [0,1] [kp,kp] rfl rfl ?_
  refine DL.pu 28 (.bool true) rfl (show FPure _ _ _ (.bool ((104 : Int) == (104 : Int))) from p_eql rfl rfl rfl) ?_
  refine DL.pu 27 (.bool true) rfl (p_assign rfl rfl) ?_
  refine DL.nil ?_
  refine TT.ct rfl rfl rfl ?_
  refine TT.rg [0,1,2,3,4,5] [kp,kp,kq,kp,kq,kx] rfl rfl ?_
  refine DL.mv 29 (.func (.func 93) #[] #[ptr b14 0]) rfl rfl rfl ?_
  refine DL.pu 30 (ptr b1 2) rfl (p_fieldAddr ty_f33_2 rfl rfl) ?_
  refine DL.qu 31 (.int .u32 a0.handle) rfl (FImm.quiet (i_loadBoxO (I:=M7) (hx7 _ _ hm_2) rfl ty_a28 rfl rfl) (fun w hc => hE15.imm hc)) ?_
  refine DL.pu 32 (.int .i64 (IntKind.i64.wrap a0.handle)) rfl (p_conv ty_u28 ty_u3 ⟨_,rfl⟩ rfl rfl) ?_
  obtain ⟨g124,h125⟩:=req_some h18
  obtain ⟨g126,h127⟩:=req_some h125
  obtain ⟨t128,e129,h130⟩:=nm_some h127
  refine DL.qu 33 (str t128) rfl (by rw [e129]; exact f_callR rfl rfl (args_val (vs:=[.int .i64 (IntKind.i64.wrap a0.handle)]) rfl) (fun w => enter63 _ w) (fun w hc => itoa_ok (Glob.mono hG (hx2.trans hx7)) _ g124 g126 w (hE15.ext hc))) ?_
  obtain ⟨g131,h132⟩:=req_some h130
  refine DL.turnM (M:=M7) (E:=[(some b14,.cells (#[s13_v]) 46 (0,0)),(Value.ownBlock s13_v,.cells s13_c 9 (0,0))]) (R:=[(some b123,.stringIter ⟨#[104,111]⟩ 1)]) (fun b o e => hE15.mi b o e) [1,2,0] rfl rfl (put93 (b:=b14) ho_s13 g131) (args:=#[str t128]) (caps:=#[ptr b14 0]) rfl (i:=5) rfl (Wn.none rfl) rfl rfl rfl rfl rfl rfl (args_val (vs:=[str t128]) rfl) (fun w => enter93 _ w) ?_
  rintro ⟨⟨p133_v,p133_c⟩,ho_p133⟩
  refine DL.nil ?_
  refine TT.inBlock ?_
  refine TT.inBlock ?_
  refine TT.inLoop ?_
  refine TT.sq rfl ?_
  refine TT.rg [0,1] [kx,kp] rfl rfl ?_
  refine DL.chr (j:=2) (c:=111) (wd:=1) rfl rfl rfl rfl rfl rfl (by decide) (by kernel_rfl) rfl rfl ?_
  refine DL.pu 19 (.bool true) rfl (p_extract rfl rfl rfl) ?_
  refine DL.nil ?_
  refine TT.sq rfl ?_
  refine TT.ct rfl rfl rfl ?_
  refine TT.skip ?_
  refine TT.bk rfl ?_
  refine TT.sq rfl ?_
  refine TT.rg [0,1] [kp,kp] rfl rfl ?_
  refine DL.pu 20 (.int .i32 111) rfl (p_extract rfl rfl rfl) ?_
  refine DL.pu 6 (.int .i32 111) rfl (p_assign rfl rfl) ?_
  refine DL.nil ?_
  refine TT.sq rfl ?_
  refine TT.rg [0] [kp] rfl rfl ?_
  refine DL.mv 21 (.int .i32 111) rfl rfl rfl ?_
  refine DL.nil ?_
  refine TT.bk rfl ?_
  refine TT.sq rfl ?_
  refine TT.rg [0,1] [kp,kp] rfl rfl ?_
  refine DL.pu 28 (.bool false) rfl (show FPure _ _ _ (.bool ((111 : Int) == (104 : Int))) from p_eql rfl rfl rfl) ?_
  refine DL.pu 27 (.bool false) rfl (p_assign rfl rfl) ?_
  refine DL.nil ?_
  refine TT.cf rfl rfl rfl ?_
  refine TT.sq rfl ?_
  refine TT.rg [0,1] [kp,kp] rfl rfl ?_
  refine DL.pu 36 (.bool true) rfl (show FPure _ _ _ (.bool ((111 : Int) == (111 : Int))) from p_eql rfl rfl rfl) ?_
  refine DL.pu 35 (.bool true) rfl (p_assign rfl rfl) ?_
  refine DL.nil ?_
  refine TT.ct rfl rfl rfl ?_
  refine TT.rg [0,1,2,3,4,5] [kp,kp,kq,kp,kq,kx] rfl rfl ?_
  refine DL.mv 37 (.func (.func 93) #[] #[ptr b14 0]) rfl rfl rfl ?_
  refine DL.pu 38 (ptr b1 3) rfl (p_fieldAddr ty_f33_3 rfl rfl) ?_
  refine DL.qu 39 (.int .u32 a0.other) rfl (FImm.quiet (i_loadBoxO (I:=M7) (hx7 _ _ hm_2) rfl ty_a28 rfl rfl) (fun w hc => hE15.imm hc)) ?_
  refine DL.pu 40 (.int .i64 (IntKind.i64.wrap a0.other)) rfl (p_conv ty_u28 ty_u3 ⟨_,rfl⟩ rfl rfl) ?_
  obtain ⟨g134,h135⟩:=req_some h132
  obtain ⟨g136,h137⟩:=req_some h135
  obtain ⟨t138,e139,h140⟩:=nm_some h137
  refine DL.qu 41 (str t138) rfl (by rw [e139]; exact f_callR rfl rfl (args_val (vs:=[.int .i64 (IntKind.i64.wrap a0.other)]) rfl) (fun w => enter63 _ w) (fun w hc => itoa_ok (Glob.mono hG (hx2.trans hx7)) _ g134 g136 w (hE15.ext hc))) ?_
  obtain ⟨g141,h142⟩:=req_some h140
  refine DL.turnM (M:=M7) (E:=[(some b14,.cells (#[p133_v]) 46 (0,0)),(Value.ownBlock p133_v,.cells p133_c 9 (0,0))]) (R:=[(some b123,.stringIter ⟨#[104,111]⟩ 2)]) (fun b o e => hE15.mi b o e) [0,1,2] rfl rfl (put93 (b:=b14) ho_p133 g141) (args:=#[str t138]) (caps:=#[ptr b14 0]) rfl (i:=5) rfl (Wn.none rfl) rfl rfl rfl rfl rfl rfl (args_val (vs:=[str t138]) rfl) (fun w => enter93 _ w) ?_
  rintro ⟨⟨p143_v,p143_c⟩,ho_p143⟩
  refine DL.nil ?_
  refine TT.inBlock ?_
  refine TT.inBlock ?_
  refine TT.inLoop ?_
  refine TT.sq rfl ?_
  refine TT.rg [0,1] [kx,kp] rfl rfl ?_
  refine DL.chrE (j:=2) rfl rfl rfl rfl rfl rfl (by decide) rfl rfl ?_
  refine DL.pu 19 (.bool false) rfl (p_extract rfl rfl rfl) ?_
  refine DL.nil ?_
  refine TT.sq rfl ?_
  refine TT.cf rfl rfl rfl ?_
  refine TT.exit rfl ?_
  refine TT.sq rfl ?_
  refine TT.rg [0,1,2] [kq,kq,kp] rfl rfl ?_
  refine DL.qu 66 (p143_v) rfl (f_load (j:=0) ty_a46 rfl rfl rfl rfl) ?_
  obtain ⟨g144,h145⟩:=req_some h142
  obtain ⟨g146,h147⟩:=req_some h145
  obtain ⟨t148,e149,h150⟩:=nm_some h147
  refine DL.qu 67 (str t148) rfl (by rw [e149]; exact f_callR rfl rfl (args_val (vs:=[p143_v,str [32]]) rfl) (fun w => enter69 _ w) (fun w hc => join_ok (i:=1) _ ho_p143 hc rfl g144 g146)) ?_
  refine DL.pu 2 (str t148) rfl (p_assign rfl rfl) ?_
  refine DL.nil ?_
  obtain rfl:=Option.some.inj h150
  exact retnE (rs:=[.tmp 2]) (vs:=[str t148]) hE15.base Tryz.func55 rfl rfl rfl (res_cons (ResV.tmp rfl) res_nil) rfl
 replace h18:=(if_neg (by simpa using hs19_4)).symm.trans h18
 by_cases hs19_5 : t16 = [104,97,100]
 ·
  subst hs19_5
  replace h18:=(if_pos (by decide)).symm.trans h18
  refine DL.keep (X:=Nat) (u:=fun b => ptr b 0) (H':=fun b => (some b,.stringIter ⟨#[104,97,100]⟩ 0) :: [(some b14,.cells (#[s13_v]) 46 (0,0)),(Value.ownBlock s13_v,.cells s13_c 9 (0,0))]) (fun _ p hp => List.mem_cons_of_mem _ hp) (i:=3) rfl (Wn.none rfl) rfl rfl rfl (f_rangeText (s:=⟨#[104,97,100]⟩) (by kernel_rfl : Tryz.prog.underlying 9 = some .string) rfl rfl) ?_
  intro b151
  refine DL.nil ?_
  refine TT.bk rfl ?_
  refine TT.lp rfl ?_
  refine TT.sq rfl ?_
  refine TT.rg [0,1] [kx,kp] rfl rfl ?_
  refine DL.chr (j:=0) (c:=104) (wd:=1) rfl rfl rfl rfl rfl rfl (by decide) (by kernel_rfl) rfl rfl ?_
  refine DL.pu 19 (.bool true) rfl (p_extract rfl rfl rfl) ?_
  refine DL.nil ?_
  refine TT.sq rfl ?_
  refine TT.ct rfl rfl rfl ?_
  refine TT.skip ?_
  refine TT.bk rfl ?_
  refine TT.sq rfl ?_
  refine TT.rg [0,1] [kp,kp] rfl rfl ?_
  refine DL.pu 20 (.int .i32 104) rfl (p_extract rfl rfl rfl) ?_
  refine DL.pu 6 (.int .i32 104) rfl (p_assign rfl rfl) ?_
  refine DL.nil ?_
  refine TT.sq rfl ?_
  refine TT.rg [0] [kp] rfl rfl ?_
  refine DL.mv 21 (.int .i32 104) rfl rfl rfl ?_
  refine DL.nil ?_
  refine TT.bk rfl ?_
  refine TT.sq rfl ?_
  refine TT.rg [0,1] [kp,kp] rfl rfl ?_
  refine DL.pu 28 (.bool true) rfl (show FPure _ _ _ (.bool ((104 : Int) == (104 : Int))) from p_eql rfl rfl rfl) ?_
  refine DL.pu 27 (.bool true) rfl (p_assign rfl rfl) ?_
  refine DL.nil ?_
  refine TT.ct rfl rfl rfl ?_
  refine TT.rg [0,1,2,3,4,5] [kp,kp,kq,kp,kq,kx] rfl rfl ?_
  refine DL.mv 29 (.func (.func 93) #[] #[ptr b14 0]) rfl rfl rfl ?_
  refine DL.pu 30 (ptr b1 2) rfl (p_fieldAddr ty_f33_2 rfl rfl) ?_
  refine DL.qu 31 (.int .u32 a0.handle) rfl (FImm.quiet (i_loadBoxO (I:=M7) (hx7 _ _ hm_2) rfl ty_a28 rfl rfl) (fun w hc => hE15.imm hc)) ?_
  refine DL.pu 32 (.int .i64 (IntKind.i64.wrap a0.handle)) rfl (p_conv ty_u28 ty_u3 ⟨_,rfl⟩ rfl rfl) ?_
  obtain ⟨g152,h153⟩:=req_some h18
  obtain ⟨g154,h155⟩:=req_some h153
  obtain ⟨t156,e157,h158⟩:=nm_some h155
  refine DL.qu 33 (str t156) rfl (by rw [e157]; exact f_callR rfl rfl (args_val (vs:=[.int .i64 (IntKind.i64.wrap a0.handle)]) rfl) (fun w => enter63 _ w) (fun w hc => itoa_ok (Glob.mono hG (hx2.trans hx7)) _ g152 g154 w (hE15.ext hc))) ?_
  obtain ⟨g159,h160⟩:=req_some h158
  refine DL.turnM (M:=M7) (E:=[(some b14,.cells (#[s13_v]) 46 (0,0)),(Value.ownBlock s13_v,.cells s13_c 9 (0,0))]) (R:=[(some b151,.stringIter ⟨#[104,97,100]⟩ 1)]) (fun b o e => hE15.mi b o e) [1,2,0] rfl rfl (put93 (b:=b14) ho_s13 g159) (args:=#[str t156]) (caps:=#[ptr b14 0]) rfl (i:=5) rfl (Wn.none rfl) rfl rfl rfl rfl rfl rfl (args_val (vs:=[str t156]) rfl) (fun w => enter93 _ w) ?_
  rintro ⟨⟨p161_v,p161_c⟩,ho_p161⟩
  refine DL.nil ?_
  refine TT.inBlock ?_
  refine TT.inBlock ?_
  refine TT.inLoop ?_
  refine TT.sq rfl ?_
  refine TT.rg [0,1] [kx,kp] rfl rfl ?_
  refine DL.chr (j:=2) (c:=97) (wd:=1) rfl rfl rfl rfl rfl rfl (by decide) (by kernel_rfl) rfl rfl ?_
  refine DL.pu 19 (.bool true) rfl (p_extract rfl rfl rfl) ?_
  refine DL.nil ?_
  refine TT.sq rfl ?_
  refine TT.ct rfl rfl rfl ?_
  refine TT.skip ?_
  refine TT.bk rfl ?_
  refine TT.sq rfl ?_
  refine TT.rg [0,1] [kp,kp] rfl rfl ?_
  refine DL.pu 20 (.int .i32 97) rfl (p_extract rfl rfl rfl) ?_
  refine DL.pu 6 (.int .i32 97) rfl (p_assign rfl rfl) ?_
  refine DL.nil ?_
  refine TT.sq rfl ?_
  refine TT.rg [0] [kp] rfl rfl ?_
  refine DL.mv 21 (.int .i32 97) rfl rfl rfl ?_
  refine DL.nil ?_
  refine TT.bk rfl ?_
  refine TT.sq rfl ?_
  refine TT.rg [0,1] [kp,kp] rfl rfl ?_
  refine DL.pu 28 (.bool false) rfl (show FPure _ _ _ (.bool ((97 : Int) == (104 : Int))) from p_eql rfl rfl rfl) ?_
  refine DL.pu 27 (.bool false) rfl (p_assign rfl rfl) ?_
  refine DL.nil ?_
  refine TT.cf rfl rfl rfl ?_
  refine TT.sq rfl ?_
  refine TT.rg [0,1] [kp,kp] rfl rfl ?_
  refine DL.pu 36 (.bool false) rfl (show FPure _ _ _ (.bool ((97 : Int) == (111 : Int))) from p_eql rfl rfl rfl) ?_
  refine DL.pu 35 (.bool false) rfl (p_assign rfl rfl) ?_
  refine DL.nil ?_
  refine TT.cf rfl rfl rfl ?_
  refine TT.sq rfl ?_
  refine TT.rg [0,1] [kp,kp] rfl rfl ?_
  refine DL.pu 44 (.bool false) rfl (show FPure _ _ _ (.bool ((97 : Int) == (116 : Int))) from p_eql rfl rfl rfl) ?_
  refine DL.pu 43 (.bool false) rfl (p_assign rfl rfl) ?_
  refine DL.nil ?_
  refine TT.cf rfl rfl rfl ?_
  refine TT.sq rfl ?_
  refine TT.rg [0,1] [kp,kp] rfl rfl ?_
  refine DL.pu 53 (.bool true) rfl (show FPure _ _ _ (.bool ((97 : Int) == (97 : Int))) from p_eql rfl rfl rfl) ?_
  refine DL.pu 52 (.bool true) rfl (p_assign rfl rfl) ?_
  refine DL.nil ?_
  refine TT.ct rfl rfl rfl ?_
  refine TT.rg [0,1,2,3,4] [kp,kp,kq,kq,kx] rfl rfl ?_
  refine DL.mv 54 (.func (.func 93) #[] #[ptr b14 0]) rfl rfl rfl ?_
  refine DL.pu 55 (ptr b1 5) rfl (p_fieldAddr ty_f33_5 rfl rfl) ?_
  refine DL.qu 56 (.int .i64 a0.attr) rfl (FImm.quiet (i_loadBoxO (I:=M7) (hx7 _ _ hm_2) rfl ty_a30 rfl rfl) (fun w hc => hE15.imm hc)) ?_
  obtain ⟨t162,h163,h164⟩:=bind_some h160
  refine DL.qu 57 (str t162) rfl (f_callR rfl rfl (args_val (vs:=[.int .i64 a0.attr]) rfl) (fun w => enter90 _ w) (fun w hc => policy_Text.val h163 (M:=M7) w (hE15.ext hc) )) ?_
  obtain ⟨g165,h166⟩:=req_some h164
  refine DL.turnM (M:=M7) (E:=[(some b14,.cells (#[p161_v]) 46 (0,0)),(Value.ownBlock p161_v,.cells p161_c 9 (0,0))]) (R:=[(some b151,.stringIter ⟨#[104,97,100]⟩ 2)]) (fun b o e => hE15.mi b o e) [0,1,2] rfl rfl (put93 (b:=b14) ho_p161 g165) (args:=#[str t162]) (caps:=#[ptr b14 0]) rfl (i:=4) rfl (Wn.none rfl) rfl rfl rfl rfl rfl rfl (args_val (vs:=[str t162]) rfl) (fun w => enter93 _ w) ?_
  rintro ⟨⟨p167_v,p167_c⟩,ho_p167⟩
  refine DL.nil ?_
  refine TT.inBlock ?_
  refine TT.inBlock ?_
  refine TT.inLoop ?_
  refine TT.sq rfl ?_
  refine TT.rg [0,1] [kx,kp] rfl rfl ?_
  refine DL.chr (j:=2) (c:=100) (wd:=1) rfl rfl rfl rfl rfl rfl (by decide) (by kernel_rfl) rfl rfl ?_
  refine DL.pu 19 (.bool true) rfl (p_extract rfl rfl rfl) ?_
  refine DL.nil ?_
  refine TT.sq rfl ?_
  refine TT.ct rfl rfl rfl ?_
  refine TT.skip ?_
  refine TT.bk rfl ?_
  refine TT.sq rfl ?_
  refine TT.rg [0,1] [kp,kp] rfl rfl ?_
  refine DL.pu 20 (.int .i32 100) rfl (p_extract rfl rfl rfl) ?_
  refine DL.pu 6 (.int .i32 100) rfl (p_assign rfl rfl) ?_
  refine DL.nil ?_
  refine TT.sq rfl ?_
  refine TT.rg [0] [kp] rfl rfl ?_
  refine DL.mv 21 (.int .i32 100) rfl rfl rfl ?_
  refine DL.nil ?_
  refine TT.bk rfl ?_
  refine TT.sq rfl ?_
  refine TT.rg [0,1] [kp,kp] rfl rfl ?_
  refine DL.pu 28 (.bool false) rfl (show FPure _ _ _ (.bool ((100 : Int) == (104 : Int))) from p_eql rfl rfl rfl) ?_
  refine DL.pu 27 (.bool false) rfl (p_assign rfl rfl) ?_
  refine DL.nil ?_
  refine TT.cf rfl rfl rfl ?_
  refine TT.sq rfl ?_
  refine TT.rg [0,1] [kp,kp] rfl rfl ?_
  refine DL.pu 36 (.bool false) rfl (show FPure _ _ _ (.bool ((100 : Int) == (111 : Int))) from p_eql rfl rfl rfl) ?_
  refine DL.pu 35 (.bool false) rfl (p_assign rfl rfl) ?_
  refine DL.nil ?_
  refine TT.cf rfl rfl rfl ?_
  refine TT.sq rfl ?_
  refine TT.rg [0,1] [kp,kp] rfl rfl ?_
  refine DL.pu 44 (.bool false) rfl (show FPure _ _ _ (.bool ((100 : Int) == (116 : Int))) from p_eql rfl rfl rfl) ?_
  refine DL.pu 43 (.bool false) rfl (p_assign rfl rfl) ?_
  refine DL.nil ?_
  refine TT.cf rfl rfl rfl ?_
  refine TT.sq rfl ?_
  refine TT.rg [0,1] [kp,kp] rfl rfl ?_
  refine DL.pu 53 (.bool false) rfl (show FPure _ _ _ (.bool ((100 : Int) == (97 : Int))) from p_eql rfl rfl rfl) ?_
  refine DL.pu 52 (.bool false) rfl (p_assign rfl rfl) ?_
  refine DL.nil ?_
  refine TT.cf rfl rfl rfl ?_
  refine TT.sq rfl ?_
  refine TT.rg [0,1] [kp,kp] rfl rfl ?_
  refine DL.pu 60 (.bool false) rfl (show FPure _ _ _ (.bool ((100 : Int) == (107 : Int))) from p_eql rfl rfl rfl) ?_
  refine DL.pu 59 (.bool false) rfl (p_assign rfl rfl) ?_
  refine DL.nil ?_
  refine TT.cf rfl rfl rfl ?_
  refine TT.rg [0,1,2,3,4] [kp,kp,kq,kq,kx] rfl rfl ?_
  refine DL.mv 22 (.func (.func 93) #[] #[ptr b14 0]) rfl rfl rfl ?_
  refine DL.pu 23 (ptr b1 38) rfl (p_fieldAddr ty_f33_7 rfl rfl) ?_
  refine DL.qu 24 (a0_38) rfl (FImm.quiet (i_loadBoxO (I:=M7) (hx7 _ _ hm_2) rfl ty_a31 rfl rfl) (fun w hc => hE15.imm hc)) ?_
  obtain ⟨t168,h169,h170⟩:=bind_some h166
  refine DL.qu 25 (str t168) rfl (f_callR rfl rfl (args_val (vs:=[a0_38]) rfl) (fun w => enter68 _ w) (fun w hc => script_digits.val h169 (M:=M7) w (hE15.ext hc) (IntRow.mono hr_a0_38 (hx2.trans hx7)))) ?_
  obtain ⟨g171,h172⟩:=req_some h170
  refine DL.turnM (M:=M7) (E:=[(some b14,.cells (#[p167_v]) 46 (0,0)),(Value.ownBlock p167_v,.cells p167_c 9 (0,0))]) (R:=[(some b151,.stringIter ⟨#[104,97,100]⟩ 3)]) (fun b o e => hE15.mi b o e) [0,1,2] rfl rfl (put93 (b:=b14) ho_p167 g171) (args:=#[str t168]) (caps:=#[ptr b14 0]) rfl (i:=4) rfl (Wn.none rfl) rfl rfl rfl rfl rfl rfl (args_val (vs:=[str t168]) rfl) (fun w => enter93 _ w) ?_
  rintro ⟨⟨p173_v,p173_c⟩,ho_p173⟩
  refine DL.nil ?_
  refine TT.inBlock ?_
  refine TT.inBlock ?_
  refine TT.inLoop ?_
  refine TT.sq rfl ?_
  refine TT.rg [0,1] [kx,kp] rfl rfl ?_
  refine DL.chrE (j:=2) rfl rfl rfl rfl rfl rfl (by decide) rfl rfl ?_
  refine DL.pu 19 (.bool false) rfl (p_extract rfl rfl rfl) ?_
  refine DL.nil ?_
  refine TT.sq rfl ?_
  refine TT.cf rfl rfl rfl ?_
  refine TT.exit rfl ?_
  refine TT.sq rfl ?_
  refine TT.rg [0,1,2] [kq,kq,kp] rfl rfl ?_
  refine DL.qu 66 (p173_v) rfl (f_load (j:=0) ty_a46 rfl rfl rfl rfl) ?_
  obtain ⟨g174,h175⟩:=req_some h172
  obtain ⟨g176,h177⟩:=req_some h175
  obtain ⟨t178,e179,h180⟩:=nm_some h177
  refine DL.qu 67 (str t178) rfl (by rw [e179]; exact f_callR rfl rfl (args_val (vs:=[p173_v,str [32]]) rfl) (fun w => enter69 _ w) (fun w hc => join_ok (i:=1) _ ho_p173 hc rfl g174 g176)) ?_
  refine DL.pu 2 (str t178) rfl (p_assign rfl rfl) ?_
  refine DL.nil ?_
  obtain rfl:=Option.some.inj h180
  exact retnE (rs:=[.tmp 2]) (vs:=[str t178]) hE15.base Tryz.func55 rfl rfl rfl (res_cons (ResV.tmp rfl) res_nil) rfl
 replace h18:=(if_neg (by simpa using hs19_5)).symm.trans h18
 by_cases hs19_6 : t16 = [104,116,97,100]
 ·
  subst hs19_6
  replace h18:=(if_pos (by decide)).symm.trans h18
  refine DL.keep (X:=Nat) (u:=fun b => ptr b 0) (H':=fun b => (some b,.stringIter ⟨#[104,116,97,100]⟩ 0) :: [(some b14,.cells (#[s13_v]) 46 (0,0)),(Value.ownBlock s13_v,.cells s13_c 9 (0,0))]) (fun _ p hp => List.mem_cons_of_mem _ hp) (i:=3) rfl (Wn.none rfl) rfl rfl rfl (f_rangeText (s:=⟨#[104,116,97,100]⟩) (by kernel_rfl : Tryz.prog.underlying 9 = some .string) rfl rfl) ?_
  intro b181
  refine DL.nil ?_
  refine TT.bk rfl ?_
  refine TT.lp rfl ?_
  refine TT.sq rfl ?_
  refine TT.rg [0,1] [kx,kp] rfl rfl ?_
  refine DL.chr (j:=0) (c:=104) (wd:=1) rfl rfl rfl rfl rfl rfl (by decide) (by kernel_rfl) rfl rfl ?_
  refine DL.pu 19 (.bool true) rfl (p_extract rfl rfl rfl) ?_
  refine DL.nil ?_
  refine TT.sq rfl ?_
  refine TT.ct rfl rfl rfl ?_
  refine TT.skip ?_
  refine TT.bk rfl ?_
  refine TT.sq rfl ?_
  refine TT.rg [0,1] [kp,kp] rfl rfl ?_
  refine DL.pu 20 (.int .i32 104) rfl (p_extract rfl rfl rfl) ?_
  refine DL.pu 6 (.int .i32 104) rfl (p_assign rfl rfl) ?_
  refine DL.nil ?_
  refine TT.sq rfl ?_
  refine TT.rg [0] [kp] rfl rfl ?_
  refine DL.mv 21 (.int .i32 104) rfl rfl rfl ?_
  refine DL.nil ?_
  refine TT.bk rfl ?_
  refine TT.sq rfl ?_
  refine TT.rg [0,1] [kp,kp] rfl rfl ?_
  refine DL.pu 28 (.bool true) rfl (show FPure _ _ _ (.bool ((104 : Int) == (104 : Int))) from p_eql rfl rfl rfl) ?_
  refine DL.pu 27 (.bool true) rfl (p_assign rfl rfl) ?_
  refine DL.nil ?_
  refine TT.ct rfl rfl rfl ?_
  refine TT.rg [0,1,2,3,4,5] [kp,kp,kq,kp,kq,kx] rfl rfl ?_
  refine DL.mv 29 (.func (.func 93) #[] #[ptr b14 0]) rfl rfl rfl ?_
  refine DL.pu 30 (ptr b1 2) rfl (p_fieldAddr ty_f33_2 rfl rfl) ?_
  refine DL.qu 31 (.int .u32 a0.handle) rfl (FImm.quiet (i_loadBoxO (I:=M7) (hx7 _ _ hm_2) rfl ty_a28 rfl rfl) (fun w hc => hE15.imm hc)) ?_
  refine DL.pu 32 (.int .i64 (IntKind.i64.wrap a0.handle)) rfl (p_conv ty_u28 ty_u3 ⟨_,rfl⟩ rfl rfl) ?_
  obtain ⟨g182,h183⟩:=req_some h18
  obtain ⟨g184,h185⟩:=req_some h183
  obtain ⟨t186,e187,h188⟩:=nm_some h185
  refine DL.qu 33 (str t186) rfl (by rw [e187]; exact f_callR rfl rfl (args_val (vs:=[.int .i64 (IntKind.i64.wrap a0.handle)]) rfl) (fun w => enter63 _ w) (fun w hc => itoa_ok (Glob.mono hG (hx2.trans hx7)) _ g182 g184 w (hE15.ext hc))) ?_
  obtain ⟨g189,h190⟩:=req_some h188
  refine DL.turnM (M:=M7) (E:=[(some b14,.cells (#[s13_v]) 46 (0,0)),(Value.ownBlock s13_v,.cells s13_c 9 (0,0))]) (R:=[(some b181,.stringIter ⟨#[104,116,97,100]⟩ 1)]) (fun b o e => hE15.mi b o e) [1,2,0] rfl rfl (put93 (b:=b14) ho_s13 g189) (args:=#[str t186]) (caps:=#[ptr b14 0]) rfl (i:=5) rfl (Wn.none rfl) rfl rfl rfl rfl rfl rfl (args_val (vs:=[str t186]) rfl) (fun w => enter93 _ w) ?_
  rintro ⟨⟨p191_v,p191_c⟩,ho_p191⟩
  refine DL.nil ?_
  refine TT.inBlock ?_
  refine TT.inBlock ?_
  refine TT.inLoop ?_
  refine TT.sq rfl ?_
  refine TT.rg [0,1] [kx,kp] rfl rfl ?_
  refine DL.chr (j:=2) (c:=116) (wd:=1) rfl rfl rfl rfl rfl rfl (by decide) (by kernel_rfl) rfl rfl ?_
  refine DL.pu 19 (.bool true) rfl (p_extract rfl rfl rfl) ?_
  refine DL.nil ?_
  refine TT.sq rfl ?_
  refine TT.ct rfl rfl rfl ?_
  refine TT.skip ?_
  refine TT.bk rfl ?_
  refine TT.sq rfl ?_
  refine TT.rg [0,1] [kp,kp] rfl rfl ?_
  refine DL.pu 20 (.int .i32 116) rfl (p_extract rfl rfl rfl) ?_
  refine DL.pu 6 (.int .i32 116) rfl (p_assign rfl rfl) ?_
  refine DL.nil ?_
  refine TT.sq rfl ?_
  refine TT.rg [0] [kp] rfl rfl ?_
  refine DL.mv 21 (.int .i32 116) rfl rfl rfl ?_
  refine DL.nil ?_
  refine TT.bk rfl ?_
  refine TT.sq rfl ?_
  refine TT.rg [0,1] [kp,kp] rfl rfl ?_
  refine DL.pu 28 (.bool false) rfl (show FPure _ _ _ (.bool ((116 : Int) == (104 : Int))) from p_eql rfl rfl rfl) ?_
  refine DL.pu 27 (.bool false) rfl (p_assign rfl rfl) ?_
  refine DL.nil ?_
  refine TT.cf rfl rfl rfl ?_
  refine TT.sq rfl ?_
  refine TT.rg [0,1] [kp,kp] rfl rfl ?_
  refine DL.pu 36 (.bool false) rfl (show FPure _ _ _ (.bool ((116 : Int) == (111 : Int))) from p_eql rfl rfl rfl) ?_
  refine DL.pu 35 (.bool false) rfl (p_assign rfl rfl) ?_
  refine DL.nil ?_
  refine TT.cf rfl rfl rfl ?_
  refine TT.sq rfl ?_
  refine TT.rg [0,1] [kp,kp] rfl rfl ?_
  refine DL.pu 44 (.bool true) rfl (show FPure _ _ _ (.bool ((116 : Int) == (116 : Int))) from p_eql rfl rfl rfl) ?_
  refine DL.pu 43 (.bool true) rfl (p_assign rfl rfl) ?_
  refine DL.nil ?_
  refine TT.ct rfl rfl rfl ?_
  refine TT.rgD [0,2,3,1,4,5,6] [0,0,0,4,14,30,63] [kp,kF,kp,kq,kp,kq,kx] rfl mixed (by kernel_rfl) ?_
  intro w192 hl192 hj192 hz192
  refine DL.mv 45 (.func (.func 93) #[] #[ptr b14 0]) rfl rfl rfl ?_
  refine DL.pu 47 (ptr b1 4) rfl (p_fieldAddr ty_f33_4 rfl rfl) ?_
  refine DL.qu 48 (.int .i64 a0.typ) rfl (FImm.quiet (i_loadBoxO (I:=M7) (hx7 _ _ hm_2) rfl ty_a29 rfl rfl) (fun w hc => hE15.imm hc)) ?_
  obtain ⟨t193,h194,h195⟩:=bind_some h190
  refine DL.callFf (G:=Value) (u:=fun g => g) (Q:=fun g M_ => (RowS Sh.str M_ g t193)) (A:=[(some b14,.cells (#[p191_v]) 46 (0,0)),(Value.ownBlock p191_v,.cells p191_c 9 (0,0)),(some b181,.stringIter ⟨#[104,116,97,100]⟩ 2)]) (J:=[]) (fun J196 => ((some b14,.cells (#[p191_v]) 46 (0,0)) :: (Value.ownBlock p191_v,.cells p191_c 9 (0,0)) :: (some b181,.stringIter ⟨#[104,116,97,100]⟩ 2) :: J196)) hl192.2.2.2 hE15.nil (List.append_nil _).symm (fun _ => rfl) (by simp) (i:=1) rfl (Wn.none rfl) rfl rfl rfl rfl rfl rfl (args_val (vs:=[]) rfl) (fun w => enter50 _ w) (fun w hc hI => script_types.ok h194 (M:=M7) w hI ) ?_
  rintro t193_v M196 J196 hE196 hx196 hr_t193
  obtain ⟨g197,h198⟩:=req_some h195
  obtain ⟨g199,h200⟩:=req_some h198
  refine DL.pu 49 (elp t193_v a0.typ.toNat) rfl (p_slIx1 ty_u46 ty_s9 (RowS.some hr_t193 g197 g199) g197 g199 rfl rfl rfl) ?_
  refine DL.qu 50 (str (t193.getD a0.typ.toNat [])) rfl (q_loadEl (fun w hc => hE196.immJ (A:=[(some b14,.cells (#[p191_v]) 46 (0,0)),(Value.ownBlock p191_v,.cells p191_c 9 (0,0)),(some b181,.stringIter ⟨#[104,116,97,100]⟩ 2)]) hc rfl) (RowS.strs hr_t193) (strs_get (lt_len g197 g199)) ty_a9 rfl rfl) ?_
  obtain ⟨g201,h202⟩:=req_some h200
  refine DL.turnMJ (M:=M196) (A:=[(some b14,.cells (#[p191_v]) 46 (0,0)),(Value.ownBlock p191_v,.cells p191_c 9 (0,0)),(some b181,.stringIter ⟨#[104,116,97,100]⟩ 2)]) (J:=J196) (E:=[(some b14,.cells (#[p191_v]) 46 (0,0)),(Value.ownBlock p191_v,.cells p191_c 9 (0,0))]) (R:=[(some b181,.stringIter ⟨#[104,116,97,100]⟩ 2)]) hE196 rfl [0,1,2] rfl rfl (put93 (b:=b14) (OwnS.mono ho_p191 hx196) g201) (args:=#[str (t193.getD a0.typ.toNat [])]) (caps:=#[ptr b14 0]) rfl (i:=6) rfl (Wn.none rfl) rfl rfl rfl rfl rfl rfl (args_val (vs:=[str (t193.getD a0.typ.toNat [])]) rfl) (fun w => enter93 _ w) ?_
  rintro ⟨⟨p203_v,p203_c⟩,ho_p203⟩
  refine DL.nil' hl192 ?_
  refine TT.settle (A:=[(some b14,.cells (#[p203_v]) 46 (0,0)),(Value.ownBlock p203_v,.cells p203_c 9 (0,0)),(some b181,.stringIter ⟨#[104,116,97,100]⟩ 2)]) (J:=J196) hE196 ?_
  intro I204 hE204 hxI204
  refine TT.inBlock ?_
  refine TT.inBlock ?_
  refine TT.inLoop ?_
  refine TT.sq rfl ?_
  refine TT.rg [0,1] [kx,kp] rfl rfl ?_
  refine DL.chr (j:=2) (c:=97) (wd:=1) rfl rfl rfl rfl rfl rfl (by decide) (by kernel_rfl) rfl rfl ?_
  refine DL.pu 19 (.bool true) rfl (p_extract rfl rfl rfl) ?_
  refine DL.nil ?_
  refine TT.sq rfl ?_
  refine TT.ct rfl rfl rfl ?_
  refine TT.skip ?_
  refine TT.bk rfl ?_
  refine TT.sq rfl ?_
  refine TT.rg [0,1] [kp,kp] rfl rfl ?_
  refine DL.pu 20 (.int .i32 97) rfl (p_extract rfl rfl rfl) ?_
  refine DL.pu 6 (.int .i32 97) rfl (p_assign rfl rfl) ?_
  refine DL.nil ?_
  refine TT.sq rfl ?_
  refine TT.rg [0] [kp] rfl rfl ?_
  refine DL.mv 21 (.int .i32 97) rfl rfl rfl ?_
  refine DL.nil ?_
  refine TT.bk rfl ?_
  refine TT.sq rfl ?_
  refine TT.rg [0,1] [kp,kp] rfl rfl ?_
  refine DL.pu 28 (.bool false) rfl (show FPure _ _ _ (.bool ((97 : Int) == (104 : Int))) from p_eql rfl rfl rfl) ?_
  refine DL.pu 27 (.bool false) rfl (p_assign rfl rfl) ?_
  refine DL.nil ?_
  refine TT.cf rfl rfl rfl ?_
  refine TT.sq rfl ?_
  refine TT.rg [0,1] [kp,kp] rfl rfl ?_
  refine DL.pu 36 (.bool false) rfl (show FPure _ _ _ (.bool ((97 : Int) == (111 : Int))) from p_eql rfl rfl rfl) ?_
  refine DL.pu 35 (.bool false) rfl (p_assign rfl rfl) ?_
  refine DL.nil ?_
  refine TT.cf rfl rfl rfl ?_
  refine TT.sq rfl ?_
  refine TT.rg [0,1] [kp,kp] rfl rfl ?_
  refine DL.pu 44 (.bool false) rfl (show FPure _ _ _ (.bool ((97 : Int) == (116 : Int))) from p_eql rfl rfl rfl) ?_
  refine DL.pu 43 (.bool false) rfl (p_assign rfl rfl) ?_
  refine DL.nil ?_
  refine TT.cf rfl rfl rfl ?_
  refine TT.sq rfl ?_
  refine TT.rg [0,1] [kp,kp] rfl rfl ?_
  refine DL.pu 53 (.bool true) rfl (show FPure _ _ _ (.bool ((97 : Int) == (97 : Int))) from p_eql rfl rfl rfl) ?_
  refine DL.pu 52 (.bool true) rfl (p_assign rfl rfl) ?_
  refine DL.nil ?_
  refine TT.ct rfl rfl rfl ?_
  refine TT.rg [0,1,2,3,4] [kp,kp,kq,kq,kx] rfl rfl ?_
  refine DL.mv 54 (.func (.func 93) #[] #[ptr b14 0]) rfl rfl rfl ?_
  refine DL.pu 55 (ptr b1 5) rfl (p_fieldAddr ty_f33_5 rfl rfl) ?_
  refine DL.qu 56 (.int .i64 a0.attr) rfl (FImm.quiet (i_loadBoxO (I:=M196) ((hx7.trans hx196) _ _ hm_2) rfl ty_a30 rfl rfl) (fun w hc => hE204.imm hc)) ?_
  obtain ⟨t205,h206,h207⟩:=bind_some h202
  refine DL.qu 57 (str t205) rfl (f_callR rfl rfl (args_val (vs:=[.int .i64 a0.attr]) rfl) (fun w => enter90 _ w) (fun w hc => policy_Text.val h206 (M:=M196) w (hE204.ext hc) )) ?_
  obtain ⟨g208,h209⟩:=req_some h207
  refine DL.turnM (M:=M196) (E:=[(some b14,.cells (#[p203_v]) 46 (0,0)),(Value.ownBlock p203_v,.cells p203_c 9 (0,0))]) (R:=[(some b181,.stringIter ⟨#[104,116,97,100]⟩ 3)]) (fun b o e => hE204.mi b o e) [0,1,2] rfl rfl (put93 (b:=b14) ho_p203 g208) (args:=#[str t205]) (caps:=#[ptr b14 0]) rfl (i:=4) rfl (Wn.none rfl) rfl rfl rfl rfl rfl rfl (args_val (vs:=[str t205]) rfl) (fun w => enter93 _ w) ?_
  rintro ⟨⟨p210_v,p210_c⟩,ho_p210⟩
  refine DL.nil ?_
  refine TT.inBlock ?_
  refine TT.inBlock ?_
  refine TT.inLoop ?_
  refine TT.sq rfl ?_
  refine TT.rg [0,1] [kx,kp] rfl rfl ?_
  refine DL.chr (j:=2) (c:=100) (wd:=1) rfl rfl rfl rfl rfl rfl (by decide) (by kernel_rfl) rfl rfl ?_
  refine DL.pu 19 (.bool true) rfl (p_extract rfl rfl rfl) ?_
  refine DL.nil ?_
  refine TT.sq rfl ?_
  refine TT.ct rfl rfl rfl ?_
  refine TT.skip ?_
  refine TT.bk rfl ?_
  refine TT.sq rfl ?_
  refine TT.rg [0,1] [kp,kp] rfl rfl ?_
  refine DL.pu 20 (.int .i32 100) rfl (p_extract rfl rfl rfl) ?_
  refine DL.pu 6 (.int .i32 100) rfl (p_assign rfl rfl) ?_
  refine DL.nil ?_
  refine TT.sq rfl ?_
  refine TT.rg [0] [kp] rfl rfl ?_
  refine DL.mv 21 (.int .i32 100) rfl rfl rfl ?_
  refine DL.nil ?_
  refine TT.bk rfl ?_
  refine TT.sq rfl ?_
  refine TT.rg [0,1] [kp,kp] rfl rfl ?_
  refine DL.pu 28 (.bool false) rfl (show FPure _ _ _ (.bool ((100 : Int) == (104 : Int))) from p_eql rfl rfl rfl) ?_
  refine DL.pu 27 (.bool false) rfl (p_assign rfl rfl) ?_
  refine DL.nil ?_
  refine TT.cf rfl rfl rfl ?_
  refine TT.sq rfl ?_
  refine TT.rg [0,1] [kp,kp] rfl rfl ?_
  refine DL.pu 36 (.bool false) rfl (show FPure _ _ _ (.bool ((100 : Int) == (111 : Int))) from p_eql rfl rfl rfl) ?_
  refine DL.pu 35 (.bool false) rfl (p_assign rfl rfl) ?_
  refine DL.nil ?_
  refine TT.cf rfl rfl rfl ?_
  refine TT.sq rfl ?_
  refine TT.rg [0,1] [kp,kp] rfl rfl ?_
  refine DL.pu 44 (.bool false) rfl (show FPure _ _ _ (.bool ((100 : Int) == (116 : Int))) from p_eql rfl rfl rfl) ?_
  refine DL.pu 43 (.bool false) rfl (p_assign rfl rfl) ?_
  refine DL.nil ?_
  refine TT.cf rfl rfl rfl ?_
  refine TT.sq rfl ?_
  refine TT.rg [0,1] [kp,kp] rfl rfl ?_
  refine DL.pu 53 (.bool false) rfl (show FPure _ _ _ (.bool ((100 : Int) == (97 : Int))) from p_eql rfl rfl rfl) ?_
  refine DL.pu 52 (.bool false) rfl (p_assign rfl rfl) ?_
  refine DL.nil ?_
  refine TT.cf rfl rfl rfl ?_
  refine TT.sq rfl ?_
  refine TT.rg [0,1] [kp,kp] rfl rfl ?_
  refine DL.pu 60 (.bool false) rfl (show FPure _ _ _ (.bool ((100 : Int) == (107 : Int))) from p_eql rfl rfl rfl) ?_
  refine DL.pu 59 (.bool false) rfl (p_assign rfl rfl) ?_
  refine DL.nil ?_
  refine TT.cf rfl rfl rfl ?_
  refine TT.rg [0,1,2,3,4] [kp,kp,kq,kq,kx] rfl rfl ?_
  refine DL.mv 22 (.func (.func 93) #[] #[ptr b14 0]) rfl rfl rfl ?_
  refine DL.pu 23 (ptr b1 38) rfl (p_fieldAddr ty_f33_7 rfl rfl) ?_
  refine DL.qu 24 (a0_38) rfl (FImm.quiet (i_loadBoxO (I:=M196) ((hx7.trans hx196) _ _ hm_2) rfl ty_a31 rfl rfl) (fun w hc => hE204.imm hc)) ?_
  obtain ⟨t211,h212,h213⟩:=bind_some h209
  refine DL.qu 25 (str t211) rfl (f_callR rfl rfl (args_val (vs:=[a0_38]) rfl) (fun w => enter68 _ w) (fun w hc => script_digits.val h212 (M:=M196) w (hE204.ext hc) (IntRow.mono hr_a0_38 ((hx2.trans hx7).trans hx196)))) ?_
  obtain ⟨g214,h215⟩:=req_some h213
  refine DL.turnM (M:=M196) (E:=[(some b14,.cells (#[p210_v]) 46 (0,0)),(Value.ownBlock p210_v,.cells p210_c 9 (0,0))]) (R:=[(some b181,.stringIter ⟨#[104,116,97,100]⟩ 4)]) (fun b o e => hE204.mi b o e) [0,1,2] rfl rfl (put93 (b:=b14) ho_p210 g214) (args:=#[str t211]) (caps:=#[ptr b14 0]) rfl (i:=4) rfl (Wn.none rfl) rfl rfl rfl rfl rfl rfl (args_val (vs:=[str t211]) rfl) (fun w => enter93 _ w) ?_
  rintro ⟨⟨p216_v,p216_c⟩,ho_p216⟩
  refine DL.nil ?_
  refine TT.inBlock ?_
  refine TT.inBlock ?_
  refine TT.inLoop ?_
  refine TT.sq rfl ?_
  refine TT.rg [0,1] [kx,kp] rfl rfl ?_
  refine DL.chrE (j:=2) rfl rfl rfl rfl rfl rfl (by decide) rfl rfl ?_
  refine DL.pu 19 (.bool false) rfl (p_extract rfl rfl rfl) ?_
  refine DL.nil ?_
  refine TT.sq rfl ?_
  refine TT.cf rfl rfl rfl ?_
  refine TT.exit rfl ?_
  refine TT.sq rfl ?_
  refine TT.rg [0,1,2] [kq,kq,kp] rfl rfl ?_
  refine DL.qu 66 (p216_v) rfl (f_load (j:=0) ty_a46 rfl rfl rfl rfl) ?_
  obtain ⟨g217,h218⟩:=req_some h215
  obtain ⟨g219,h220⟩:=req_some h218
  obtain ⟨t221,e222,h223⟩:=nm_some h220
  refine DL.qu 67 (str t221) rfl (by rw [e222]; exact f_callR rfl rfl (args_val (vs:=[p216_v,str [32]]) rfl) (fun w => enter69 _ w) (fun w hc => join_ok (i:=1) _ ho_p216 hc rfl g217 g219)) ?_
  refine DL.pu 2 (str t221) rfl (p_assign rfl rfl) ?_
  refine DL.nil ?_
  obtain rfl:=Option.some.inj h223
  exact retnE (rs:=[.tmp 2]) (vs:=[str t221]) hE204.base Tryz.func55 rfl rfl rfl (res_cons (ResV.tmp rfl) res_nil) rfl
 replace h18:=(if_neg (by simpa using hs19_6)).symm.trans h18
 by_cases hs19_7 : t16 = [104,97]
 ·
  subst hs19_7
  replace h18:=(if_pos (by decide)).symm.trans h18
  refine DL.keep (X:=Nat) (u:=fun b => ptr b 0) (H':=fun b => (some b,.stringIter ⟨#[104,97]⟩ 0) :: [(some b14,.cells (#[s13_v]) 46 (0,0)),(Value.ownBlock s13_v,.cells s13_c 9 (0,0))]) (fun _ p hp => List.mem_cons_of_mem _ hp) (i:=3) rfl (Wn.none rfl) rfl rfl rfl (f_rangeText (s:=⟨#[104,97]⟩) (by kernel_rfl : Tryz.prog.underlying 9 = some .string) rfl rfl) ?_
  intro b224
  refine DL.nil ?_
  refine TT.bk rfl ?_
  refine TT.lp rfl ?_
  refine TT.sq rfl ?_
  refine TT.rg [0,1] [kx,kp] rfl rfl ?_
  refine DL.chr (j:=0) (c:=104) (wd:=1) rfl rfl rfl rfl rfl rfl (by decide) (by kernel_rfl) rfl rfl ?_
  refine DL.pu 19 (.bool true) rfl (p_extract rfl rfl rfl) ?_
  refine DL.nil ?_
  refine TT.sq rfl ?_
  refine TT.ct rfl rfl rfl ?_
  refine TT.skip ?_
  refine TT.bk rfl ?_
  refine TT.sq rfl ?_
  refine TT.rg [0,1] [kp,kp] rfl rfl ?_
  refine DL.pu 20 (.int .i32 104) rfl (p_extract rfl rfl rfl) ?_
  refine DL.pu 6 (.int .i32 104) rfl (p_assign rfl rfl) ?_
  refine DL.nil ?_
  refine TT.sq rfl ?_
  refine TT.rg [0] [kp] rfl rfl ?_
  refine DL.mv 21 (.int .i32 104) rfl rfl rfl ?_
  refine DL.nil ?_
  refine TT.bk rfl ?_
  refine TT.sq rfl ?_
  refine TT.rg [0,1] [kp,kp] rfl rfl ?_
  refine DL.pu 28 (.bool true) rfl (show FPure _ _ _ (.bool ((104 : Int) == (104 : Int))) from p_eql rfl rfl rfl) ?_
  refine DL.pu 27 (.bool true) rfl (p_assign rfl rfl) ?_
  refine DL.nil ?_
  refine TT.ct rfl rfl rfl ?_
  refine TT.rg [0,1,2,3,4,5] [kp,kp,kq,kp,kq,kx] rfl rfl ?_
  refine DL.mv 29 (.func (.func 93) #[] #[ptr b14 0]) rfl rfl rfl ?_
  refine DL.pu 30 (ptr b1 2) rfl (p_fieldAddr ty_f33_2 rfl rfl) ?_
  refine DL.qu 31 (.int .u32 a0.handle) rfl (FImm.quiet (i_loadBoxO (I:=M7) (hx7 _ _ hm_2) rfl ty_a28 rfl rfl) (fun w hc => hE15.imm hc)) ?_
  refine DL.pu 32 (.int .i64 (IntKind.i64.wrap a0.handle)) rfl (p_conv ty_u28 ty_u3 ⟨_,rfl⟩ rfl rfl) ?_
  obtain ⟨g225,h226⟩:=req_some h18
  obtain ⟨g227,h228⟩:=req_some h226
  obtain ⟨t229,e230,h231⟩:=nm_some h228
  refine DL.qu 33 (str t229) rfl (by rw [e230]; exact f_callR rfl rfl (args_val (vs:=[.int .i64 (IntKind.i64.wrap a0.handle)]) rfl) (fun w => enter63 _ w) (fun w hc => itoa_ok (Glob.mono hG (hx2.trans hx7)) _ g225 g227 w (hE15.ext hc))) ?_
  obtain ⟨g232,h233⟩:=req_some h231
  refine DL.turnM (M:=M7) (E:=[(some b14,.cells (#[s13_v]) 46 (0,0)),(Value.ownBlock s13_v,.cells s13_c 9 (0,0))]) (R:=[(some b224,.stringIter ⟨#[104,97]⟩ 1)]) (fun b o e => hE15.mi b o e) [1,2,0] rfl rfl (put93 (b:=b14) ho_s13 g232) (args:=#[str t229]) (caps:=#[ptr b14 0]) rfl (i:=5) rfl (Wn.none rfl) rfl rfl rfl rfl rfl rfl (args_val (vs:=[str t229]) rfl) (fun w => enter93 _ w) ?_
  rintro ⟨⟨p234_v,p234_c⟩,ho_p234⟩
  refine DL.nil ?_
  refine TT.inBlock ?_
  refine TT.inBlock ?_
  refine TT.inLoop ?_
  refine TT.sq rfl ?_
  refine TT.rg [0,1] [kx,kp] rfl rfl ?_
  refine DL.chr (j:=2) (c:=97) (wd:=1) rfl rfl rfl rfl rfl rfl (by decide) (by kernel_rfl) rfl rfl ?_
  refine DL.pu 19 (.bool true) rfl (p_extract rfl rfl rfl) ?_
  refine DL.nil ?_
  refine TT.sq rfl ?_
  refine TT.ct rfl rfl rfl ?_
  refine TT.skip ?_
  refine TT.bk rfl ?_
  refine TT.sq rfl ?_
  refine TT.rg [0,1] [kp,kp] rfl rfl ?_
  refine DL.pu 20 (.int .i32 97) rfl (p_extract rfl rfl rfl) ?_
  refine DL.pu 6 (.int .i32 97) rfl (p_assign rfl rfl) ?_
  refine DL.nil ?_
  refine TT.sq rfl ?_
  refine TT.rg [0] [kp] rfl rfl ?_
  refine DL.mv 21 (.int .i32 97) rfl rfl rfl ?_
  refine DL.nil ?_
  refine TT.bk rfl ?_
  refine TT.sq rfl ?_
  refine TT.rg [0,1] [kp,kp] rfl rfl ?_
  refine DL.pu 28 (.bool false) rfl (show FPure _ _ _ (.bool ((97 : Int) == (104 : Int))) from p_eql rfl rfl rfl) ?_
  refine DL.pu 27 (.bool false) rfl (p_assign rfl rfl) ?_
  refine DL.nil ?_
  refine TT.cf rfl rfl rfl ?_
  refine TT.sq rfl ?_
  refine TT.rg [0,1] [kp,kp] rfl rfl ?_
  refine DL.pu 36 (.bool false) rfl (show FPure _ _ _ (.bool ((97 : Int) == (111 : Int))) from p_eql rfl rfl rfl) ?_
  refine DL.pu 35 (.bool false) rfl (p_assign rfl rfl) ?_
  refine DL.nil ?_
  refine TT.cf rfl rfl rfl ?_
  refine TT.sq rfl ?_
  refine TT.rg [0,1] [kp,kp] rfl rfl ?_
  refine DL.pu 44 (.bool false) rfl (show FPure _ _ _ (.bool ((97 : Int) == (116 : Int))) from p_eql rfl rfl rfl) ?_
  refine DL.pu 43 (.bool false) rfl (p_assign rfl rfl) ?_
  refine DL.nil ?_
  refine TT.cf rfl rfl rfl ?_
  refine TT.sq rfl ?_
  refine TT.rg [0,1] [kp,kp] rfl rfl ?_
  refine DL.pu 53 (.bool true) rfl (show FPure _ _ _ (.bool ((97 : Int) == (97 : Int))) from p_eql rfl rfl rfl) ?_
  refine DL.pu 52 (.bool true) rfl (p_assign rfl rfl) ?_
  refine DL.nil ?_
  refine TT.ct rfl rfl rfl ?_
  refine TT.rg [0,1,2,3,4] [kp,kp,kq,kq,kx] rfl rfl ?_
  refine DL.mv 54 (.func (.func 93) #[] #[ptr b14 0]) rfl rfl rfl ?_
  refine DL.pu 55 (ptr b1 5) rfl (p_fieldAddr ty_f33_5 rfl rfl) ?_
  refine DL.qu 56 (.int .i64 a0.attr) rfl (FImm.quiet (i_loadBoxO (I:=M7) (hx7 _ _ hm_2) rfl ty_a30 rfl rfl) (fun w hc => hE15.imm hc)) ?_
  obtain ⟨t235,h236,h237⟩:=bind_some h233
  refine DL.qu 57 (str t235) rfl (f_callR rfl rfl (args_val (vs:=[.int .i64 a0.attr]) rfl) (fun w => enter90 _ w) (fun w hc => policy_Text.val h236 (M:=M7) w (hE15.ext hc) )) ?_
  obtain ⟨g238,h239⟩:=req_some h237
  refine DL.turnM (M:=M7) (E:=[(some b14,.cells (#[p234_v]) 46 (0,0)),(Value.ownBlock p234_v,.cells p234_c 9 (0,0))]) (R:=[(some b224,.stringIter ⟨#[104,97]⟩ 2)]) (fun b o e => hE15.mi b o e) [0,1,2] rfl rfl (put93 (b:=b14) ho_p234 g238) (args:=#[str t235]) (caps:=#[ptr b14 0]) rfl (i:=4) rfl (Wn.none rfl) rfl rfl rfl rfl rfl rfl (args_val (vs:=[str t235]) rfl) (fun w => enter93 _ w) ?_
  rintro ⟨⟨p240_v,p240_c⟩,ho_p240⟩
  refine DL.nil ?_
  refine TT.inBlock ?_
  refine TT.inBlock ?_
  refine TT.inLoop ?_
  refine TT.sq rfl ?_
  refine TT.rg [0,1] [kx,kp] rfl rfl ?_
  refine DL.chrE (j:=2) rfl rfl rfl rfl rfl rfl (by decide) rfl rfl ?_
  refine DL.pu 19 (.bool false) rfl (p_extract rfl rfl rfl) ?_
  refine DL.nil ?_
  refine TT.sq rfl ?_
  refine TT.cf rfl rfl rfl ?_
  refine TT.exit rfl ?_
  refine TT.sq rfl ?_
  refine TT.rg [0,1,2] [kq,kq,kp] rfl rfl ?_
  refine DL.qu 66 (p240_v) rfl (f_load (j:=0) ty_a46 rfl rfl rfl rfl) ?_
  obtain ⟨g241,h242⟩:=req_some h239
  obtain ⟨g243,h244⟩:=req_some h242
  obtain ⟨t245,e246,h247⟩:=nm_some h244
  refine DL.qu 67 (str t245) rfl (by rw [e246]; exact f_callR rfl rfl (args_val (vs:=[p240_v,str [32]]) rfl) (fun w => enter69 _ w) (fun w hc => join_ok (i:=1) _ ho_p240 hc rfl g241 g243)) ?_
  refine DL.pu 2 (str t245) rfl (p_assign rfl rfl) ?_
  refine DL.nil ?_
  obtain rfl:=Option.some.inj h247
  exact retnE (rs:=[.tmp 2]) (vs:=[str t245]) hE15.base Tryz.func55 rfl rfl rfl (res_cons (ResV.tmp rfl) res_nil) rfl
 replace h18:=(if_neg (by simpa using hs19_7)).symm.trans h18
 by_cases hs19_8 : t16 = zU
 ·
  subst hs19_8
  replace h18:=(if_pos (by decide)).symm.trans h18
  refine DL.keep (X:=Nat) (u:=fun b => ptr b 0) (H':=fun b => (some b,.stringIter ⟨#[]⟩ 0) :: [(some b14,.cells (#[s13_v]) 46 (0,0)),(Value.ownBlock s13_v,.cells s13_c 9 (0,0))]) (fun _ p hp => List.mem_cons_of_mem _ hp) (i:=3) rfl (Wn.none rfl) rfl rfl rfl (f_rangeText (s:=⟨#[]⟩) (by kernel_rfl : Tryz.prog.underlying 9 = some .string) rfl rfl) ?_
  intro b248
  refine DL.nil ?_
  refine TT.bk rfl ?_
  refine TT.lp rfl ?_
  refine TT.sq rfl ?_
  refine TT.rg [0,1] [kx,kp] rfl rfl ?_
  refine DL.chrE (j:=0) rfl rfl rfl rfl rfl rfl (by decide) rfl rfl ?_
  refine DL.pu 19 (.bool false) rfl (p_extract rfl rfl rfl) ?_
  refine DL.nil ?_
  refine TT.sq rfl ?_
  refine TT.cf rfl rfl rfl ?_
  refine TT.exit rfl ?_
  refine TT.sq rfl ?_
  refine TT.rg [0,1,2] [kq,kq,kp] rfl rfl ?_
  refine DL.qu 66 (s13_v) rfl (f_load (j:=1) ty_a46 rfl rfl rfl rfl) ?_
  obtain ⟨g249,h250⟩:=req_some h18
  obtain ⟨g251,h252⟩:=req_some h250
  obtain ⟨t253,e254,h255⟩:=nm_some h252
  refine DL.qu 67 (str t253) rfl (by rw [e254]; exact f_callR rfl rfl (args_val (vs:=[s13_v,str [32]]) rfl) (fun w => enter69 _ w) (fun w hc => join_ok (i:=2) _ ho_s13 hc rfl g249 g251)) ?_
  refine DL.pu 2 (str t253) rfl (p_assign rfl rfl) ?_
  refine DL.nil ?_
  obtain rfl:=Option.some.inj h255
  exact retnE (rs:=[.tmp 2]) (vs:=[str t253]) hE15.base Tryz.func55 rfl rfl rfl (res_cons (ResV.tmp rfl) res_nil) rfl
 replace h18:=(if_neg (by simpa using hs19_8)).symm.trans h18
 cases h18
theorem script_cmdText.val {a0 : Cmd} {a0_38 : Value} {r : List UInt8} (h : script_cmdText.f a0 = some r) {M : Mem} (w : World) (hM : Ext M (heapOf w)) (hG : Glob M) (hr_a0_38 : IntRow M .u8 a0_38 a0.data) : Calls Tryz.prog 55 #[.agg (Cmd.ce a0 a0_38)] w fun e w' => e = .returned (str r) ∧ Below w.heap.size w w' :=
 calls_value (script_cmdText.ok h w hM hG hr_a0_38)

end Go.Proofs.YthldgjbmjgjogaaGreatDoor
