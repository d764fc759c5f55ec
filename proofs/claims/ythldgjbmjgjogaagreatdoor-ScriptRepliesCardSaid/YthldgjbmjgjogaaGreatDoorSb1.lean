import Derived.Test.YthldgjbmjgjogaaGreatDoorSa2
namespace Go.Proofs.YthldgjbmjgjogaaGreatDoor
open Go Go.HW Go.RowKit
set_option linter.unusedVariables false
set_option linter.unusedSimpArgs false

theorem ty_f33_0 (a : Addr) (w : World) : (Instr.fieldAt 33 (.pointer (some a)) 0).run Tryz.prog w = .ok (.pointer (some (a.add 0))) w:=by kernel_rfl
theorem ty_f33_1 (a : Addr) (w : World) : (Instr.fieldAt 33 (.pointer (some a)) 1).run Tryz.prog w = .ok (.pointer (some (a.add 1))) w:=by kernel_rfl
theorem ty_a27 (w : World) : (isAgg 27).run Tryz.prog w = .ok false w:=by kernel_rfl
theorem ty_f33_2 (a : Addr) (w : World) : (Instr.fieldAt 33 (.pointer (some a)) 2).run Tryz.prog w = .ok (.pointer (some (a.add 2))) w:=by kernel_rfl
theorem ty_f33_3 (a : Addr) (w : World) : (Instr.fieldAt 33 (.pointer (some a)) 3).run Tryz.prog w = .ok (.pointer (some (a.add 3))) w:=by kernel_rfl
theorem ty_f33_4 (a : Addr) (w : World) : (Instr.fieldAt 33 (.pointer (some a)) 4).run Tryz.prog w = .ok (.pointer (some (a.add 4))) w:=by kernel_rfl
theorem ty_a29 (w : World) : (isAgg 29).run Tryz.prog w = .ok false w:=by kernel_rfl
theorem ty_f33_5 (a : Addr) (w : World) : (Instr.fieldAt 33 (.pointer (some a)) 5).run Tryz.prog w = .ok (.pointer (some (a.add 5))) w:=by kernel_rfl
theorem ty_a30 (w : World) : (isAgg 30).run Tryz.prog w = .ok false w:=by kernel_rfl
theorem ty_f33_6 (a : Addr) (w : World) : (Instr.fieldAt 33 (.pointer (some a)) 6).run Tryz.prog w = .ok (.pointer (some (a.add 6))) w:=by kernel_rfl
theorem ty_a26 (w : World) : (isAgg 26).run Tryz.prog w = .ok true w:=by kernel_rfl
theorem ty_s26 (w : World) : (sizeOf 26).run Tryz.prog w = .ok 32 w:=by kernel_rfl
theorem ty_g26 : Tryz.prog.eqGuardType Tryz.prog.depth 26 = false:=by kernel_rfl
theorem ty_ue26 : Tryz.prog.underlying 26 = some (.array 32 5):=by kernel_rfl
theorem ty_ue5 : Tryz.prog.underlying 5 = some (.int .u8):=by kernel_rfl
theorem ty_f33_7 (a : Addr) (w : World) : (Instr.fieldAt 33 (.pointer (some a)) 7).run Tryz.prog w = .ok (.pointer (some (a.add 38))) w:=by kernel_rfl
theorem enter99 (args : Array Value) (w : World) : (callFunc 99 args).run Tryz.prog w = .ok (.enter 99 args) w:=by kernel_rfl
theorem ty_a33 (w : World) : (isAgg 33).run Tryz.prog w = .ok true w:=by kernel_rfl
theorem ty_s33 (w : World) : (sizeOf 33).run Tryz.prog w = .ok 39 w:=by kernel_rfl
/-! ### escutcheon/frame.SameCmd: function 98 -/
noncomputable def B98 : Code:=bodyOf Tryz.f98
def frame_SameCmd.f (a0 : Cmd) (a1 : Cmd) : Option (Bool):=(if (a0.num == a1.num) = true then (some (a0.kind == a1.kind)) else (some false)).bind fun q6 => (if q6 = true then (some (a0.handle == a1.handle)) else (some false)).bind fun q14 => (if q14 = true then (some (a0.other == a1.other)) else (some false)).bind fun q22 => (if q22 = true then (some (a0.typ == a1.typ)) else (some false)).bind fun q30 => (if q30 = true then (some (a0.attr == a1.attr)) else (some false)).bind fun q38 => (if q38 = true then (some ((pad32 a0.key) == (pad32 a1.key))) else (some false)).bind fun q46 => (if q46 = true then ((slices_Equal_99.f a0.data a1.data).bind fun t60 => some t60) else (some false)).bind fun q54 => some q54
set_option maxRecDepth 20000 in
theorem frame_SameCmd.ok {a0 : Cmd} {a1 : Cmd} {a0_38 : Value} {a1_38 : Value} {r : Bool} (h : frame_SameCmd.f a0 a1 = some r) {M : Mem} (w : World) (hM : Ext M (heapOf w)) (hr_a0_38 : IntRow M .u8 a0_38 a0.data) (hr_a1_38 : IntRow M .u8 a1_38 a1.data) : Calls Tryz.prog 98 #[.agg (Cmd.ce a0 a0_38),.agg (Cmd.ce a1 a1_38)] w (Post (fun u => u = .bool r) w):=by
 unfold frame_SameCmd.f at h
 have hE:=Env.start hM
 refine calls_of_TT (N:=59) (S:=[(0,.agg (Cmd.ce a0 a0_38)),(1,.agg (Cmd.ce a1 a1_38))]) (c:=B98) Tryz.func98 rfl rfl rfl (by simp) ?_
 show TT _ _ _ _ _ _ [.code (sub [] B98)] _ _
 refine TT.sq rfl ?_
 refine TT.rg [0,1,2] [kA,kA,kp] rfl rfl ?_
 refine DL.new (ob:=.cells ((Cmd.ce a0 a0_38)) 33) (mk:=fun b => ptr b 0) (i:=0) rfl (Wn.none rfl) rfl rfl rfl (f_box (v:=.agg (Cmd.ce a0 a0_38)) rfl rfl) ?_
 intro b1 hb1
 refine DL.new (ob:=.cells ((Cmd.ce a1 a1_38)) 33) (mk:=fun b => ptr b 0) (i:=1) rfl (Wn.none rfl) rfl rfl rfl (f_box (v:=.agg (Cmd.ce a1 a1_38)) rfl rfl) ?_
 intro b2 hb2
 refine DL.pu 4 (.bool false) rfl (p_assign rfl rfl) ?_
 refine DL.nil ?_
 refine TT.freezeAt (j:=1) hE rfl ?_
 intro M3 I3 hE3 hx3 hxI3 hb3
 have hm_3 : M3 b1 = some (.cells ((Cmd.ce a0 a0_38)) 33 (0,0)):=hb3 _ rfl
 show TT _ _ _ _ _ _ _ _ [(some b2,.cells ((Cmd.ce a1 a1_38)) 33 (0,0))]
 refine TT.freezeAt (j:=0) hE3 rfl ?_
 intro M4 I4 hE4 hx4 hxI4 hb4
 have hm_4 : M4 b2 = some (.cells ((Cmd.ce a1 a1_38)) 33 (0,0)):=hb4 _ rfl
 show TT _ _ _ _ _ _ _ _ []
 refine TT.sq rfl ?_
 refine TT.rg [0,1,2,3,4,5,6,7,8,9,10,11,12,13,14,15,16,17,18,19,20,21,22,23,24,25,26,27,28,29,30,31,32,33,34,35,36,37,38,39,40,41,42,43,44,45,46,47,48,49,50,51,52,53,54] [kp,kq,kp,kq,kp,kp,kp,kq,kp,kq,kp,kp,kp,kp,kq,kp,kq,kp,kp,kp,kp,kq,kp,kq,kp,kp,kp,kp,kq,kp,kq,kp,kp,kp,kp,kq,kp,kq,kp,kp,kp,kp,kq,kp,kq,kp,kp,kp,kp,kq,kp,kq,kq,kp,kp] rfl rfl ?_
 refine DL.pu 5 (ptr b1 0) rfl (p_fieldAddr ty_f33_0 rfl rfl) ?_
 refine DL.qu 6 (.int .u64 a0.num) rfl (FImm.quiet (i_loadBoxO (I:=M4) (hx4 _ _ hm_3) rfl ty_a24 rfl rfl) (fun w hc => hE4.imm hc)) ?_
 refine DL.pu 7 (ptr b2 0) rfl (p_fieldAddr ty_f33_0 rfl rfl) ?_
 refine DL.qu 8 (.int .u64 a1.num) rfl (FImm.quiet (i_loadBoxO (I:=M4) hm_4 rfl ty_a24 rfl rfl) (fun w hc => hE4.imm hc)) ?_
 refine DL.pu 9 (.bool (a0.num == a1.num)) rfl (p_eql rfl rfl rfl) ?_
 refine DL.mv 10 (.bool (a0.num == a1.num)) rfl rfl rfl ?_
 obtain ⟨q6,h7,h8⟩:=bind_some h
 refine DL.cut [(2,ptr b1 0),(3,ptr b2 0),(16,.bool q6)] [12,13,14,15,16,17,18,19,20,21,22,23,24,25,26,27,28,29,30,31,32,33,34,35,36,37,38,39,40,41,42,43,44,45,46,47,48,49,50,51,52,53,54] ?_ (fun J9 => ?_)
 ·
  refine DL.mv 17 (.bool q6) rfl rfl rfl ?_
  obtain ⟨q14,h15,h16⟩:=bind_some h8
  refine DL.cut [(2,ptr b1 0),(3,ptr b2 0),(23,.bool q14)] [19,20,21,22,23,24,25,26,27,28,29,30,31,32,33,34,35,36,37,38,39,40,41,42,43,44,45,46,47,48,49,50,51,52,53,54] ?_ (fun J17 => ?_)
  ·
   refine DL.mv 24 (.bool q14) rfl rfl rfl ?_
   obtain ⟨q22,h23,h24⟩:=bind_some h16
   refine DL.cut [(2,ptr b1 0),(3,ptr b2 0),(30,.bool q22)] [26,27,28,29,30,31,32,33,34,35,36,37,38,39,40,41,42,43,44,45,46,47,48,49,50,51,52,53,54] ?_ (fun J25 => ?_)
   ·
    refine DL.mv 31 (.bool q22) rfl rfl rfl ?_
    obtain ⟨q30,h31,h32⟩:=bind_some h24
    refine DL.cut [(2,ptr b1 0),(3,ptr b2 0),(37,.bool q30)] [33,34,35,36,37,38,39,40,41,42,43,44,45,46,47,48,49,50,51,52,53,54] ?_ (fun J33 => ?_)
    ·
     refine DL.mv 38 (.bool q30) rfl rfl rfl ?_
     obtain ⟨q38,h39,h40⟩:=bind_some h32
     refine DL.cut [(2,ptr b1 0),(3,ptr b2 0),(44,.bool q38)] [40,41,42,43,44,45,46,47,48,49,50,51,52,53,54] ?_ (fun J41 => ?_)
     ·
      refine DL.mv 45 (.bool q38) rfl rfl rfl ?_
      obtain ⟨q46,h47,h48⟩:=bind_some h40
      refine DL.cut [(2,ptr b1 0),(3,ptr b2 0),(51,.bool q46)] [47,48,49,50,51,52,53,54] ?_ (fun J49 => ?_)
      ·
       refine DL.mv 52 (.bool q46) rfl rfl rfl ?_
       obtain ⟨q54,h55,h56⟩:=bind_some h48
       refine DL.cut [(58,.bool q54)] [54] ?_ (fun J57 => ?_)
       ·
        refine DL.pu 4 (.bool q54) rfl (p_assign rfl rfl) ?_
        refine DL.nil ?_
        obtain rfl:=Option.some.inj h56
        exact retnE (rs:=[.tmp 4]) (vs:=[.bool q54]) hE4.base Tryz.func98 rfl rfl rfl (res_cons (ResV.tmp rfl) res_nil) rfl
       ·
        by_cases c58 : q46 = true
        ·
         have h59:=ite_true c58 h55
         refine DL.pure (v:=ptr b1 38) rfl (Wn.yes c58 rfl rfl rfl rfl) rfl rfl rfl (p_fieldAddr ty_f33_7 rfl rfl) ?_
         refine DL.quiet (v:=a0_38) rfl (Wn.yes c58 rfl rfl rfl rfl) rfl rfl rfl (FImm.quiet (i_loadBoxO (I:=M4) (hx4 _ _ hm_3) rfl ty_a31 rfl rfl) (fun w hc => hE4.imm hc)) ?_
         refine DL.pure (v:=ptr b2 38) rfl (Wn.yes c58 rfl rfl rfl rfl) rfl rfl rfl (p_fieldAddr ty_f33_7 rfl rfl) ?_
         refine DL.quiet (v:=a1_38) rfl (Wn.yes c58 rfl rfl rfl rfl) rfl rfl rfl (FImm.quiet (i_loadBoxO (I:=M4) hm_4 rfl ty_a31 rfl rfl) (fun w hc => hE4.imm hc)) ?_
         obtain ⟨t60,h61,h62⟩:=bind_some h59
         refine DL.quiet (v:=.bool t60) rfl (Wn.yes c58 rfl rfl rfl rfl) rfl rfl rfl (f_callR rfl rfl (args_val (vs:=[a0_38,a1_38]) rfl) (fun w => enter99 _ w) (fun w hc => slices_Equal_99.val h61 (M:=M4) w (hE4.ext hc) (IntRow.mono hr_a0_38 (hx3.trans hx4)) (IntRow.mono hr_a1_38 (hx3.trans hx4)))) ?_
         refine DL.pu 58 (.bool t60) rfl (p_pick_t c58 rfl rfl rfl) ?_
         obtain rfl:=Option.some.inj h62
         exact DL.weak J57 (Sub.cons rfl (Sub.nil _))
        ·
         replace c58:=Bool.eq_false_iff.mpr c58
         have h63:=ite_false c58 h55
         refine DL.not rfl (Wn.no c58 rfl rfl rfl rfl) rfl rfl ?_
         refine DL.not rfl (Wn.no c58 rfl rfl rfl rfl) rfl rfl ?_
         refine DL.not rfl (Wn.no c58 rfl rfl rfl rfl) rfl rfl ?_
         refine DL.not rfl (Wn.no c58 rfl rfl rfl rfl) rfl rfl ?_
         refine DL.not rfl (Wn.no c58 rfl rfl rfl rfl) rfl rfl ?_
         refine DL.pu 58 (.bool false) rfl (p_pick_f c58 rfl rfl rfl) ?_
         obtain rfl:=Option.some.inj h63
         exact DL.weak J57 (Sub.cons rfl (Sub.nil _))
      ·
       by_cases c50 : q38 = true
       ·
        have h51:=ite_true c50 h47
        refine DL.pure (v:=ptr b1 6) rfl (Wn.yes c50 rfl rfl rfl rfl) rfl rfl rfl (p_fieldAddr ty_f33_6 rfl rfl) ?_
        refine DL.quiet (v:=.agg (enc .u8 (pad32 a0.key))) rfl (Wn.yes c50 rfl rfl rfl rfl) rfl rfl rfl (FImm.quiet (i_loadBoxSub (I:=M4) (hx4 _ _ hm_3) (vs:=encl .u8 (pad32 a0.key)) rfl rfl ty_a26 ty_s26 rfl rfl) (fun w hc => hE4.imm hc)) ?_
        refine DL.pure (v:=ptr b2 6) rfl (Wn.yes c50 rfl rfl rfl rfl) rfl rfl rfl (p_fieldAddr ty_f33_6 rfl rfl) ?_
        refine DL.quiet (v:=.agg (enc .u8 (pad32 a1.key))) rfl (Wn.yes c50 rfl rfl rfl rfl) rfl rfl rfl (FImm.quiet (i_loadBoxSub (I:=M4) hm_4 (vs:=encl .u8 (pad32 a1.key)) rfl rfl ty_a26 ty_s26 rfl rfl) (fun w hc => hE4.imm hc)) ?_
        refine DL.pure (v:=.bool ((pad32 a0.key) == (pad32 a1.key))) rfl (Wn.yes c50 rfl rfl rfl rfl) rfl rfl rfl (p_eqAgg ty_g26 (fun w => run_eqRow (d:=9998) ty_ue26 ty_s5 ty_a5 ty_ue5 (pad32_len _) (pad32_len _) w) rfl rfl rfl) ?_
        refine DL.pu 51 (.bool ((pad32 a0.key) == (pad32 a1.key))) rfl (p_pick_t c50 rfl rfl rfl) ?_
        obtain rfl:=Option.some.inj h51
        exact DL.weak J49 (Sub.cons rfl (Sub.cons rfl (Sub.cons rfl (Sub.nil _))))
       ·
        replace c50:=Bool.eq_false_iff.mpr c50
        have h52:=ite_false c50 h47
        refine DL.not rfl (Wn.no c50 rfl rfl rfl rfl) rfl rfl ?_
        refine DL.not rfl (Wn.no c50 rfl rfl rfl rfl) rfl rfl ?_
        refine DL.not rfl (Wn.no c50 rfl rfl rfl rfl) rfl rfl ?_
        refine DL.not rfl (Wn.no c50 rfl rfl rfl rfl) rfl rfl ?_
        refine DL.not rfl (Wn.no c50 rfl rfl rfl rfl) rfl rfl ?_
        refine DL.pu 51 (.bool false) rfl (p_pick_f c50 rfl rfl rfl) ?_
        obtain rfl:=Option.some.inj h52
        exact DL.weak J49 (Sub.cons rfl (Sub.cons rfl (Sub.cons rfl (Sub.nil _))))
     ·
      by_cases c42 : q30 = true
      ·
       have h43:=ite_true c42 h39
       refine DL.pure (v:=ptr b1 5) rfl (Wn.yes c42 rfl rfl rfl rfl) rfl rfl rfl (p_fieldAddr ty_f33_5 rfl rfl) ?_
       refine DL.quiet (v:=.int .i64 a0.attr) rfl (Wn.yes c42 rfl rfl rfl rfl) rfl rfl rfl (FImm.quiet (i_loadBoxO (I:=M4) (hx4 _ _ hm_3) rfl ty_a30 rfl rfl) (fun w hc => hE4.imm hc)) ?_
       refine DL.pure (v:=ptr b2 5) rfl (Wn.yes c42 rfl rfl rfl rfl) rfl rfl rfl (p_fieldAddr ty_f33_5 rfl rfl) ?_
       refine DL.quiet (v:=.int .i64 a1.attr) rfl (Wn.yes c42 rfl rfl rfl rfl) rfl rfl rfl (FImm.quiet (i_loadBoxO (I:=M4) hm_4 rfl ty_a30 rfl rfl) (fun w hc => hE4.imm hc)) ?_
       refine DL.pure (v:=.bool (a0.attr == a1.attr)) rfl (Wn.yes c42 rfl rfl rfl rfl) rfl rfl rfl (p_eql rfl rfl rfl) ?_
       refine DL.pu 44 (.bool (a0.attr == a1.attr)) rfl (p_pick_t c42 rfl rfl rfl) ?_
       obtain rfl:=Option.some.inj h43
       exact DL.weak J41 (Sub.cons rfl (Sub.cons rfl (Sub.cons rfl (Sub.nil _))))
      ·
       replace c42:=Bool.eq_false_iff.mpr c42
       have h44:=ite_false c42 h39
       refine DL.not rfl (Wn.no c42 rfl rfl rfl rfl) rfl rfl ?_
       refine DL.not rfl (Wn.no c42 rfl rfl rfl rfl) rfl rfl ?_
       refine DL.not rfl (Wn.no c42 rfl rfl rfl rfl) rfl rfl ?_
       refine DL.not rfl (Wn.no c42 rfl rfl rfl rfl) rfl rfl ?_
       refine DL.not rfl (Wn.no c42 rfl rfl rfl rfl) rfl rfl ?_
       refine DL.pu 44 (.bool false) rfl (p_pick_f c42 rfl rfl rfl) ?_
       obtain rfl:=Option.some.inj h44
       exact DL.weak J41 (Sub.cons rfl (Sub.cons rfl (Sub.cons rfl (Sub.nil _))))
    ·
     by_cases c34 : q22 = true
     ·
      have h35:=ite_true c34 h31
      refine DL.pure (v:=ptr b1 4) rfl (Wn.yes c34 rfl rfl rfl rfl) rfl rfl rfl (p_fieldAddr ty_f33_4 rfl rfl) ?_
      refine DL.quiet (v:=.int .i64 a0.typ) rfl (Wn.yes c34 rfl rfl rfl rfl) rfl rfl rfl (FImm.quiet (i_loadBoxO (I:=M4) (hx4 _ _ hm_3) rfl ty_a29 rfl rfl) (fun w hc => hE4.imm hc)) ?_
      refine DL.pure (v:=ptr b2 4) rfl (Wn.yes c34 rfl rfl rfl rfl) rfl rfl rfl (p_fieldAddr ty_f33_4 rfl rfl) ?_
      refine DL.quiet (v:=.int .i64 a1.typ) rfl (Wn.yes c34 rfl rfl rfl rfl) rfl rfl rfl (FImm.quiet (i_loadBoxO (I:=M4) hm_4 rfl ty_a29 rfl rfl) (fun w hc => hE4.imm hc)) ?_
      refine DL.pure (v:=.bool (a0.typ == a1.typ)) rfl (Wn.yes c34 rfl rfl rfl rfl) rfl rfl rfl (p_eql rfl rfl rfl) ?_
      refine DL.pu 37 (.bool (a0.typ == a1.typ)) rfl (p_pick_t c34 rfl rfl rfl) ?_
      obtain rfl:=Option.some.inj h35
      exact DL.weak J33 (Sub.cons rfl (Sub.cons rfl (Sub.cons rfl (Sub.nil _))))
     ·
      replace c34:=Bool.eq_false_iff.mpr c34
      have h36:=ite_false c34 h31
      refine DL.not rfl (Wn.no c34 rfl rfl rfl rfl) rfl rfl ?_
      refine DL.not rfl (Wn.no c34 rfl rfl rfl rfl) rfl rfl ?_
      refine DL.not rfl (Wn.no c34 rfl rfl rfl rfl) rfl rfl ?_
      refine DL.not rfl (Wn.no c34 rfl rfl rfl rfl) rfl rfl ?_
      refine DL.not rfl (Wn.no c34 rfl rfl rfl rfl) rfl rfl ?_
      refine DL.pu 37 (.bool false) rfl (p_pick_f c34 rfl rfl rfl) ?_
      obtain rfl:=Option.some.inj h36
      exact DL.weak J33 (Sub.cons rfl (Sub.cons rfl (Sub.cons rfl (Sub.nil _))))
   ·
    by_cases c26 : q14 = true
    ·
     have h27:=ite_true c26 h23
     refine DL.pure (v:=ptr b1 3) rfl (Wn.yes c26 rfl rfl rfl rfl) rfl rfl rfl (p_fieldAddr ty_f33_3 rfl rfl) ?_
     refine DL.quiet (v:=.int .u32 a0.other) rfl (Wn.yes c26 rfl rfl rfl rfl) rfl rfl rfl (FImm.quiet (i_loadBoxO (I:=M4) (hx4 _ _ hm_3) rfl ty_a28 rfl rfl) (fun w hc => hE4.imm hc)) ?_
     refine DL.pure (v:=ptr b2 3) rfl (Wn.yes c26 rfl rfl rfl rfl) rfl rfl rfl (p_fieldAddr ty_f33_3 rfl rfl) ?_
     refine DL.quiet (v:=.int .u32 a1.other) rfl (Wn.yes c26 rfl rfl rfl rfl) rfl rfl rfl (FImm.quiet (i_loadBoxO (I:=M4) hm_4 rfl ty_a28 rfl rfl) (fun w hc => hE4.imm hc)) ?_
     refine DL.pure (v:=.bool (a0.other == a1.other)) rfl (Wn.yes c26 rfl rfl rfl rfl) rfl rfl rfl (p_eql rfl rfl rfl) ?_
     refine DL.pu 30 (.bool (a0.other == a1.other)) rfl (p_pick_t c26 rfl rfl rfl) ?_
     obtain rfl:=Option.some.inj h27
     exact DL.weak J25 (Sub.cons rfl (Sub.cons rfl (Sub.cons rfl (Sub.nil _))))
    ·
     replace c26:=Bool.eq_false_iff.mpr c26
     have h28:=ite_false c26 h23
     refine DL.not rfl (Wn.no c26 rfl rfl rfl rfl) rfl rfl ?_
     refine DL.not rfl (Wn.no c26 rfl rfl rfl rfl) rfl rfl ?_
     refine DL.not rfl (Wn.no c26 rfl rfl rfl rfl) rfl rfl ?_
     refine DL.not rfl (Wn.no c26 rfl rfl rfl rfl) rfl rfl ?_
     refine DL.not rfl (Wn.no c26 rfl rfl rfl rfl) rfl rfl ?_
     refine DL.pu 30 (.bool false) rfl (p_pick_f c26 rfl rfl rfl) ?_
     obtain rfl:=Option.some.inj h28
     exact DL.weak J25 (Sub.cons rfl (Sub.cons rfl (Sub.cons rfl (Sub.nil _))))
  ·
   by_cases c18 : q6 = true
   ·
    have h19:=ite_true c18 h15
    refine DL.pure (v:=ptr b1 2) rfl (Wn.yes c18 rfl rfl rfl rfl) rfl rfl rfl (p_fieldAddr ty_f33_2 rfl rfl) ?_
    refine DL.quiet (v:=.int .u32 a0.handle) rfl (Wn.yes c18 rfl rfl rfl rfl) rfl rfl rfl (FImm.quiet (i_loadBoxO (I:=M4) (hx4 _ _ hm_3) rfl ty_a28 rfl rfl) (fun w hc => hE4.imm hc)) ?_
    refine DL.pure (v:=ptr b2 2) rfl (Wn.yes c18 rfl rfl rfl rfl) rfl rfl rfl (p_fieldAddr ty_f33_2 rfl rfl) ?_
    refine DL.quiet (v:=.int .u32 a1.handle) rfl (Wn.yes c18 rfl rfl rfl rfl) rfl rfl rfl (FImm.quiet (i_loadBoxO (I:=M4) hm_4 rfl ty_a28 rfl rfl) (fun w hc => hE4.imm hc)) ?_
    refine DL.pure (v:=.bool (a0.handle == a1.handle)) rfl (Wn.yes c18 rfl rfl rfl rfl) rfl rfl rfl (p_eql rfl rfl rfl) ?_
    refine DL.pu 23 (.bool (a0.handle == a1.handle)) rfl (p_pick_t c18 rfl rfl rfl) ?_
    obtain rfl:=Option.some.inj h19
    exact DL.weak J17 (Sub.cons rfl (Sub.cons rfl (Sub.cons rfl (Sub.nil _))))
   ·
    replace c18:=Bool.eq_false_iff.mpr c18
    have h20:=ite_false c18 h15
    refine DL.not rfl (Wn.no c18 rfl rfl rfl rfl) rfl rfl ?_
    refine DL.not rfl (Wn.no c18 rfl rfl rfl rfl) rfl rfl ?_
    refine DL.not rfl (Wn.no c18 rfl rfl rfl rfl) rfl rfl ?_
    refine DL.not rfl (Wn.no c18 rfl rfl rfl rfl) rfl rfl ?_
    refine DL.not rfl (Wn.no c18 rfl rfl rfl rfl) rfl rfl ?_
    refine DL.pu 23 (.bool false) rfl (p_pick_f c18 rfl rfl rfl) ?_
    obtain rfl:=Option.some.inj h20
    exact DL.weak J17 (Sub.cons rfl (Sub.cons rfl (Sub.cons rfl (Sub.nil _))))
 ·
  by_cases c10 : (a0.num == a1.num) = true
  ·
   have h11:=ite_true c10 h7
   refine DL.pure (v:=ptr b1 1) rfl (Wn.yes c10 rfl rfl rfl rfl) rfl rfl rfl (p_fieldAddr ty_f33_1 rfl rfl) ?_
   refine DL.quiet (v:=.int .i64 a0.kind) rfl (Wn.yes c10 rfl rfl rfl rfl) rfl rfl rfl (FImm.quiet (i_loadBoxO (I:=M4) (hx4 _ _ hm_3) rfl ty_a27 rfl rfl) (fun w hc => hE4.imm hc)) ?_
   refine DL.pure (v:=ptr b2 1) rfl (Wn.yes c10 rfl rfl rfl rfl) rfl rfl rfl (p_fieldAddr ty_f33_1 rfl rfl) ?_
   refine DL.quiet (v:=.int .i64 a1.kind) rfl (Wn.yes c10 rfl rfl rfl rfl) rfl rfl rfl (FImm.quiet (i_loadBoxO (I:=M4) hm_4 rfl ty_a27 rfl rfl) (fun w hc => hE4.imm hc)) ?_
   refine DL.pure (v:=.bool (a0.kind == a1.kind)) rfl (Wn.yes c10 rfl rfl rfl rfl) rfl rfl rfl (p_eql rfl rfl rfl) ?_
   refine DL.pu 16 (.bool (a0.kind == a1.kind)) rfl (p_pick_t c10 rfl rfl rfl) ?_
   obtain rfl:=Option.some.inj h11
   exact DL.weak J9 (Sub.cons rfl (Sub.cons rfl (Sub.cons rfl (Sub.nil _))))
  ·
   replace c10:=Bool.eq_false_iff.mpr c10
   have h12:=ite_false c10 h7
   refine DL.not rfl (Wn.no c10 rfl rfl rfl rfl) rfl rfl ?_
   refine DL.not rfl (Wn.no c10 rfl rfl rfl rfl) rfl rfl ?_
   refine DL.not rfl (Wn.no c10 rfl rfl rfl rfl) rfl rfl ?_
   refine DL.not rfl (Wn.no c10 rfl rfl rfl rfl) rfl rfl ?_
   refine DL.not rfl (Wn.no c10 rfl rfl rfl rfl) rfl rfl ?_
   refine DL.pu 16 (.bool false) rfl (p_pick_f c10 rfl rfl rfl) ?_
   obtain rfl:=Option.some.inj h12
   exact DL.weak J9 (Sub.cons rfl (Sub.cons rfl (Sub.cons rfl (Sub.nil _))))
theorem frame_SameCmd.val {a0 : Cmd} {a1 : Cmd} {a0_38 : Value} {a1_38 : Value} {r : Bool} (h : frame_SameCmd.f a0 a1 = some r) {M : Mem} (w : World) (hM : Ext M (heapOf w)) (hr_a0_38 : IntRow M .u8 a0_38 a0.data) (hr_a1_38 : IntRow M .u8 a1_38 a1.data) : Calls Tryz.prog 98 #[.agg (Cmd.ce a0 a0_38),.agg (Cmd.ce a1 a1_38)] w fun e w' => e = .returned (.bool r) ∧ Below w.heap.size w w' :=
 calls_value (frame_SameCmd.ok h w hM hr_a0_38 hr_a1_38)

/-! ### escutcheon/escutcheonref20.SameCmd: function 15 -/
/-! ### escutcheon/escutcheonref20.MayCmd: function 62 -/
/-! ### escutcheon/escutcheonref31.MayCmd: function 21 -/
end Go.Proofs.YthldgjbmjgjogaaGreatDoor
