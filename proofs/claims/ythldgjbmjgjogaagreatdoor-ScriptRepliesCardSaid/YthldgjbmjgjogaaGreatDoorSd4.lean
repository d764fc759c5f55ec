import Derived.Test.YthldgjbmjgjogaaGreatDoorSd3
namespace Go.Proofs.YthldgjbmjgjogaaGreatDoor
open Go Go.HW Go.RowKit
set_option linter.unusedVariables false
set_option linter.unusedSimpArgs false

/-! ### escutcheon/script.same: function 61 -/
noncomputable def B61 : Code:=bodyOf Tryz.f61
def script_same.f (a0 : Act) (a1 : Act) : Option (Bool):=(if (a0.kind == a1.kind) = true then (some (a0.client == a1.client)) else (some false)).bind fun q6 => (if q6 = true then (some (a0.n == a1.n)) else (some false)).bind fun q14 => (if q14 = true then (some (a0.at_ == a1.at_)) else (some false)).bind fun q22 => (if q22 = true then (some (a0.byt == a1.byt)) else (some false)).bind fun q30 => (if q30 = true then (some (a0.tick == a1.tick)) else (some false)).bind fun q38 => (if q38 = true then (some ((pad32 a0.first) == (pad32 a1.first))) else (some false)).bind fun q46 => (if q46 = true then (some ((pad32 a0.draw) == (pad32 a1.draw))) else (some false)).bind fun q54 => (if q54 = true then ((frame_SameCmd.f a0.cmd a1.cmd).bind fun t68 => some t68) else (some false)).bind fun q62 => (if q62 = true then ((slices_Equal_99.f a0.bytes a1.bytes).bind fun t79 => some t79) else (some false)).bind fun q73 => (if q73 = true then ((slices_Equal_100.f a0.picks a1.picks).bind fun t90 => some t90) else (some false)).bind fun q84 => some q84
set_option maxRecDepth 20000 in
theorem script_same.ok {a0 : Act} {a1 : Act} {a0_108 : Value} {a0_109 : Value} {a0_110 : Value} {a1_108 : Value} {a1_109 : Value} {a1_110 : Value} {r : Bool} (h : script_same.f a0 a1 = some r) {M : Mem} (w : World) (hM : Ext M (heapOf w)) (hr_a0_108 : IntRow M .u8 a0_108 a0.cmd.data) (hr_a0_109 : IntRow M .u8 a0_109 a0.bytes) (hr_a0_110 : IntRow M .i64 a0_110 a0.picks) (hr_a1_108 : IntRow M .u8 a1_108 a1.cmd.data) (hr_a1_109 : IntRow M .u8 a1_109 a1.bytes) (hr_a1_110 : IntRow M .i64 a1_110 a1.picks) : Calls Tryz.prog 61 #[.agg (Act.ce a0 a0_108 a0_109 a0_110),.agg (Act.ce a1 a1_108 a1_109 a1_110)] w (Post (fun u => u = .bool r) w):=by
 unfold script_same.f at h
 have hE:=Env.start hM
 refine calls_of_TT (N:=80) (S:=[(0,.agg (Act.ce a0 a0_108 a0_109 a0_110)),(1,.agg (Act.ce a1 a1_108 a1_109 a1_110))]) (c:=B61) Tryz.func61 rfl rfl rfl (by simp) ?_
 show TT _ _ _ _ _ _ [.code (sub [] B61)] _ _
 refine TT.sq rfl ?_
 refine TT.rg [0,1,2] [kA,kA,kp] rfl rfl ?_
 refine DL.new (ob:=.cells ((Act.ce a0 a0_108 a0_109 a0_110)) 36) (mk:=fun b => ptr b 0) (i:=0) rfl (Wn.none rfl) rfl rfl rfl (f_box (v:=.agg (Act.ce a0 a0_108 a0_109 a0_110)) rfl rfl) ?_
 intro b1 hb1
 refine DL.new (ob:=.cells ((Act.ce a1 a1_108 a1_109 a1_110)) 36) (mk:=fun b => ptr b 0) (i:=1) rfl (Wn.none rfl) rfl rfl rfl (f_box (v:=.agg (Act.ce a1 a1_108 a1_109 a1_110)) rfl rfl) ?_
 intro b2 hb2
 refine DL.pu 4 (.bool false) rfl (p_assign rfl rfl) ?_
 refine DL.nil ?_
 refine TT.freezeAt (j:=1) hE rfl ?_
 intro M3 I3 hE3 hx3 hxI3 hb3
 have hm_3 : M3 b1 = some (.cells ((Act.ce a0 a0_108 a0_109 a0_110)) 36 (0,0)):=hb3 _ rfl
 show TT _ _ _ _ _ _ _ _ [(some b2,.cells ((Act.ce a1 a1_108 a1_109 a1_110)) 36 (0,0))]
 refine TT.freezeAt (j:=0) hE3 rfl ?_
 intro M4 I4 hE4 hx4 hxI4 hb4
 have hm_4 : M4 b2 = some (.cells ((Act.ce a1 a1_108 a1_109 a1_110)) 36 (0,0)):=hb4 _ rfl
 show TT _ _ _ _ _ _ _ _ []
 refine TT.sq rfl ?_
 refine TT.rg [0,1,2,3,4,5,6,7,8,9,10,11,12,13,14,15,16,17,18,19,20,21,22,23,24,25,26,27,28,29,30,31,32,33,34,35,36,37,38,39,40,41,42,43,44,45,46,47,48,49,50,51,52,53,54,55,56,57,58,59,60,61,62,63,64,65,66,67,68,69,70,71,72,73,74,75] [kp,kq,kp,kq,kp,kp,kp,kq,kp,kq,kp,kp,kp,kp,kq,kp,kq,kp,kp,kp,kp,kq,kp,kq,kp,kp,kp,kp,kq,kp,kq,kp,kp,kp,kp,kq,kp,kq,kp,kp,kp,kp,kq,kp,kq,kp,kp,kp,kp,kq,kp,kq,kp,kp,kp,kp,kq,kp,kq,kq,kp,kp,kp,kq,kp,kq,kq,kp,kp,kp,kq,kp,kq,kq,kp,kp] rfl rfl ?_
 refine DL.pu 5 (ptr b1 0) rfl (p_fieldAddr ty_f36_0 rfl rfl) ?_
 refine DL.qu 6 (.int .i64 a0.kind) rfl (FImm.quiet (i_loadBoxO (I:=M4) (hx4 _ _ hm_3) rfl ty_a23 rfl rfl) (fun w hc => hE4.imm hc)) ?_
 refine DL.pu 7 (ptr b2 0) rfl (p_fieldAddr ty_f36_0 rfl rfl) ?_
 refine DL.qu 8 (.int .i64 a1.kind) rfl (FImm.quiet (i_loadBoxO (I:=M4) hm_4 rfl ty_a23 rfl rfl) (fun w hc => hE4.imm hc)) ?_
 refine DL.pu 9 (.bool (a0.kind == a1.kind)) rfl (p_eql rfl rfl rfl) ?_
 refine DL.mv 10 (.bool (a0.kind == a1.kind)) rfl rfl rfl ?_
 obtain ⟨q6,h7,h8⟩:=bind_some h
 refine DL.cut [(2,ptr b1 0),(3,ptr b2 0),(16,.bool q6)] [12,13,14,15,16,17,18,19,20,21,22,23,24,25,26,27,28,29,30,31,32,33,34,35,36,37,38,39,40,41,42,43,44,45,46,47,48,49,50,51,52,53,54,55,56,57,58,59,60,61,62,63,64,65,66,67,68,69,70,71,72,73,74,75] ?_ (fun J9 => ?_)
 ·
  refine DL.mv 17 (.bool q6) rfl rfl rfl ?_
  obtain ⟨q14,h15,h16⟩:=bind_some h8
  refine DL.cut [(2,ptr b1 0),(3,ptr b2 0),(23,.bool q14)] [19,20,21,22,23,24,25,26,27,28,29,30,31,32,33,34,35,36,37,38,39,40,41,42,43,44,45,46,47,48,49,50,51,52,53,54,55,56,57,58,59,60,61,62,63,64,65,66,67,68,69,70,71,72,73,74,75] ?_ (fun J17 => ?_)
  ·
   refine DL.mv 24 (.bool q14) rfl rfl rfl ?_
   obtain ⟨q22,h23,h24⟩:=bind_some h16
   refine DL.cut [(2,ptr b1 0),(3,ptr b2 0),(30,.bool q22)] [26,27,28,29,30,31,32,33,34,35,36,37,38,39,40,41,42,43,44,45,46,47,48,49,50,51,52,53,54,55,56,57,58,59,60,61,62,63,64,65,66,67,68,69,70,71,72,73,74,75] ?_ (fun J25 => ?_)
   ·
    refine DL.mv 31 (.bool q22) rfl rfl rfl ?_
    obtain ⟨q30,h31,h32⟩:=bind_some h24
    refine DL.cut [(2,ptr b1 0),(3,ptr b2 0),(37,.bool q30)] [33,34,35,36,37,38,39,40,41,42,43,44,45,46,47,48,49,50,51,52,53,54,55,56,57,58,59,60,61,62,63,64,65,66,67,68,69,70,71,72,73,74,75] ?_ (fun J33 => ?_)
    ·
     refine DL.mv 38 (.bool q30) rfl rfl rfl ?_
     obtain ⟨q38,h39,h40⟩:=bind_some h32
     refine DL.cut [(2,ptr b1 0),(3,ptr b2 0),(44,.bool q38)] [40,41,42,43,44,45,46,47,48,49,50,51,52,53,54,55,56,57,58,59,60,61,62,63,64,65,66,67,68,69,70,71,72,73,74,75] ?_ (fun J41 => ?_)
     ·
      refine DL.mv 45 (.bool q38) rfl rfl rfl ?_
      obtain ⟨q46,h47,h48⟩:=bind_some h40
      refine DL.cut [(2,ptr b1 0),(3,ptr b2 0),(51,.bool q46)] [47,48,49,50,51,52,53,54,55,56,57,58,59,60,61,62,63,64,65,66,67,68,69,70,71,72,73,74,75] ?_ (fun J49 => ?_)
      ·
       refine DL.mv 52 (.bool q46) rfl rfl rfl ?_
       obtain ⟨q54,h55,h56⟩:=bind_some h48
       refine DL.cut [(2,ptr b1 0),(3,ptr b2 0),(58,.bool q54)] [54,55,56,57,58,59,60,61,62,63,64,65,66,67,68,69,70,71,72,73,74,75] ?_ (fun J57 => ?_)
       ·
        refine DL.mv 59 (.bool q54) rfl rfl rfl ?_
        obtain ⟨q62,h63,h64⟩:=bind_some h56
        refine DL.cut [(2,ptr b1 0),(3,ptr b2 0),(65,.bool q62)] [61,62,63,64,65,66,67,68,69,70,71,72,73,74,75] ?_ (fun J65 => ?_)
        ·
         refine DL.mv 66 (.bool q62) rfl rfl rfl ?_
         obtain ⟨q73,h74,h75⟩:=bind_some h64
         refine DL.cut [(2,ptr b1 0),(3,ptr b2 0),(72,.bool q73)] [68,69,70,71,72,73,74,75] ?_ (fun J76 => ?_)
         ·
          refine DL.mv 73 (.bool q73) rfl rfl rfl ?_
          obtain ⟨q84,h85,h86⟩:=bind_some h75
          refine DL.cut [(79,.bool q84)] [75] ?_ (fun J87 => ?_)
          ·
           refine DL.pu 4 (.bool q84) rfl (p_assign rfl rfl) ?_
           refine DL.nil ?_
           obtain rfl:=Option.some.inj h86
           exact retnE (rs:=[.tmp 4]) (vs:=[.bool q84]) hE4.base Tryz.func61 rfl rfl rfl (res_cons (ResV.tmp rfl) res_nil) rfl
          ·
           by_cases c88 : q73 = true
           ·
            have h89:=ite_true c88 h85
            refine DL.pure (v:=ptr b1 110) rfl (Wn.yes c88 rfl rfl rfl rfl) rfl rfl rfl (p_fieldAddr ty_f36_10 rfl rfl) ?_
            refine DL.quiet (v:=a0_110) rfl (Wn.yes c88 rfl rfl rfl rfl) rfl rfl rfl (FImm.quiet (i_loadBoxO (I:=M4) (hx4 _ _ hm_3) rfl ty_a34 rfl rfl) (fun w hc => hE4.imm hc)) ?_
            refine DL.pure (v:=ptr b2 110) rfl (Wn.yes c88 rfl rfl rfl rfl) rfl rfl rfl (p_fieldAddr ty_f36_10 rfl rfl) ?_
            refine DL.quiet (v:=a1_110) rfl (Wn.yes c88 rfl rfl rfl rfl) rfl rfl rfl (FImm.quiet (i_loadBoxO (I:=M4) hm_4 rfl ty_a34 rfl rfl) (fun w hc => hE4.imm hc)) ?_
            obtain ⟨t90,h91,h92⟩:=bind_some h89
            refine DL.quiet (v:=.bool t90) rfl (Wn.yes c88 rfl rfl rfl rfl) rfl rfl rfl (f_callR rfl rfl (args_val (vs:=[a0_110,a1_110]) rfl) (fun w => enter100 _ w) (fun w hc => slices_Equal_100.val h91 (M:=M4) w (hE4.ext hc) (IntRow.mono hr_a0_110 (hx3.trans hx4)) (IntRow.mono hr_a1_110 (hx3.trans hx4)))) ?_
            refine DL.pu 79 (.bool t90) rfl (p_pick_t c88 rfl rfl rfl) ?_
            obtain rfl:=Option.some.inj h92
            exact DL.weak J87 (Sub.cons rfl (Sub.nil _))
           ·
            replace c88:=Bool.eq_false_iff.mpr c88
            have h93:=ite_false c88 h85
            refine DL.not rfl (Wn.no c88 rfl rfl rfl rfl) rfl rfl ?_
            refine DL.not rfl (Wn.no c88 rfl rfl rfl rfl) rfl rfl ?_
            refine DL.not rfl (Wn.no c88 rfl rfl rfl rfl) rfl rfl ?_
            refine DL.not rfl (Wn.no c88 rfl rfl rfl rfl) rfl rfl ?_
            refine DL.not rfl (Wn.no c88 rfl rfl rfl rfl) rfl rfl ?_
            refine DL.pu 79 (.bool false) rfl (p_pick_f c88 rfl rfl rfl) ?_
            obtain rfl:=Option.some.inj h93
            exact DL.weak J87 (Sub.cons rfl (Sub.nil _))
         ·
          by_cases c77 : q62 = true
          ·
           have h78:=ite_true c77 h74
           refine DL.pure (v:=ptr b1 109) rfl (Wn.yes c77 rfl rfl rfl rfl) rfl rfl rfl (p_fieldAddr ty_f36_9 rfl rfl) ?_
           refine DL.quiet (v:=a0_109) rfl (Wn.yes c77 rfl rfl rfl rfl) rfl rfl rfl (FImm.quiet (i_loadBoxO (I:=M4) (hx4 _ _ hm_3) rfl ty_a31 rfl rfl) (fun w hc => hE4.imm hc)) ?_
           refine DL.pure (v:=ptr b2 109) rfl (Wn.yes c77 rfl rfl rfl rfl) rfl rfl rfl (p_fieldAddr ty_f36_9 rfl rfl) ?_
           refine DL.quiet (v:=a1_109) rfl (Wn.yes c77 rfl rfl rfl rfl) rfl rfl rfl (FImm.quiet (i_loadBoxO (I:=M4) hm_4 rfl ty_a31 rfl rfl) (fun w hc => hE4.imm hc)) ?_
           obtain ⟨t79,h80,h81⟩:=bind_some h78
           refine DL.quiet (v:=.bool t79) rfl (Wn.yes c77 rfl rfl rfl rfl) rfl rfl rfl (f_callR rfl rfl (args_val (vs:=[a0_109,a1_109]) rfl) (fun w => enter99 _ w) (fun w hc => slices_Equal_99.val h80 (M:=M4) w (hE4.ext hc) (IntRow.mono hr_a0_109 (hx3.trans hx4)) (IntRow.mono hr_a1_109 (hx3.trans hx4)))) ?_
           refine DL.pu 72 (.bool t79) rfl (p_pick_t c77 rfl rfl rfl) ?_
           obtain rfl:=Option.some.inj h81
           exact DL.weak J76 (Sub.cons rfl (Sub.cons rfl (Sub.cons rfl (Sub.nil _))))
          ·
           replace c77:=Bool.eq_false_iff.mpr c77
           have h82:=ite_false c77 h74
           refine DL.not rfl (Wn.no c77 rfl rfl rfl rfl) rfl rfl ?_
           refine DL.not rfl (Wn.no c77 rfl rfl rfl rfl) rfl rfl ?_
           refine DL.not rfl (Wn.no c77 rfl rfl rfl rfl) rfl rfl ?_
           refine DL.not rfl (Wn.no c77 rfl rfl rfl rfl) rfl rfl ?_
           refine DL.not rfl (Wn.no c77 rfl rfl rfl rfl) rfl rfl ?_
           refine DL.pu 72 (.bool false) rfl (p_pick_f c77 rfl rfl rfl) ?_
           obtain rfl:=Option.some.inj h82
           exact DL.weak J76 (Sub.cons rfl (Sub.cons rfl (Sub.cons rfl (Sub.nil _))))
        ·
         by_cases c66 : q54 = true
         ·
          have h67:=ite_true c66 h63
          refine DL.pure (v:=ptr b1 70) rfl (Wn.yes c66 rfl rfl rfl rfl) rfl rfl rfl (p_fieldAddr ty_f36_8 rfl rfl) ?_
          refine DL.quiet (v:=.agg (Cmd.ce a0.cmd a0_108)) rfl (Wn.yes c66 rfl rfl rfl rfl) rfl rfl rfl (FImm.quiet (i_loadBoxSub (I:=M4) (hx4 _ _ hm_3) (vs:=(Cmd.ce a0.cmd a0_108).toList) rfl rfl ty_a33 ty_s33 rfl rfl) (fun w hc => hE4.imm hc)) ?_
          refine DL.pure (v:=ptr b2 70) rfl (Wn.yes c66 rfl rfl rfl rfl) rfl rfl rfl (p_fieldAddr ty_f36_8 rfl rfl) ?_
          refine DL.quiet (v:=.agg (Cmd.ce a1.cmd a1_108)) rfl (Wn.yes c66 rfl rfl rfl rfl) rfl rfl rfl (FImm.quiet (i_loadBoxSub (I:=M4) hm_4 (vs:=(Cmd.ce a1.cmd a1_108).toList) rfl rfl ty_a33 ty_s33 rfl rfl) (fun w hc => hE4.imm hc)) ?_
          obtain ⟨t68,h69,h70⟩:=bind_some h67
          refine DL.quiet (v:=.bool t68) rfl (Wn.yes c66 rfl rfl rfl rfl) rfl rfl rfl (f_callR rfl rfl (args_val (vs:=[.agg (Cmd.ce a0.cmd a0_108),.agg (Cmd.ce a1.cmd a1_108)]) rfl) (fun w => enter98 _ w) (fun w hc => frame_SameCmd.val h69 (M:=M4) w (hE4.ext hc) (IntRow.mono hr_a0_108 (hx3.trans hx4)) (IntRow.mono hr_a1_108 (hx3.trans hx4)))) ?_
          refine DL.pu 65 (.bool t68) rfl (p_pick_t c66 rfl rfl rfl) ?_
          obtain rfl:=Option.some.inj h70
          exact DL.weak J65 (Sub.cons rfl (Sub.cons rfl (Sub.cons rfl (Sub.nil _))))
         ·
          replace c66:=Bool.eq_false_iff.mpr c66
          have h71:=ite_false c66 h63
          refine DL.not rfl (Wn.no c66 rfl rfl rfl rfl) rfl rfl ?_
          refine DL.not rfl (Wn.no c66 rfl rfl rfl rfl) rfl rfl ?_
          refine DL.not rfl (Wn.no c66 rfl rfl rfl rfl) rfl rfl ?_
          refine DL.not rfl (Wn.no c66 rfl rfl rfl rfl) rfl rfl ?_
          refine DL.not rfl (Wn.no c66 rfl rfl rfl rfl) rfl rfl ?_
          refine DL.pu 65 (.bool false) rfl (p_pick_f c66 rfl rfl rfl) ?_
          obtain rfl:=Option.some.inj h71
          exact DL.weak J65 (Sub.cons rfl (Sub.cons rfl (Sub.cons rfl (Sub.nil _))))
       ·
        by_cases c58 : q46 = true
        ·
         have h59:=ite_true c58 h55
         refine DL.pure (v:=ptr b1 38) rfl (Wn.yes c58 rfl rfl rfl rfl) rfl rfl rfl (p_fieldAddr ty_f36_7 rfl rfl) ?_
         refine DL.quiet (v:=.agg (enc .u8 (pad32 a0.draw))) rfl (Wn.yes c58 rfl rfl rfl rfl) rfl rfl rfl (FImm.quiet (i_loadBoxSub (I:=M4) (hx4 _ _ hm_3) (vs:=encl .u8 (pad32 a0.draw)) rfl rfl ty_a26 ty_s26 rfl rfl) (fun w hc => hE4.imm hc)) ?_
         refine DL.pure (v:=ptr b2 38) rfl (Wn.yes c58 rfl rfl rfl rfl) rfl rfl rfl (p_fieldAddr ty_f36_7 rfl rfl) ?_
         refine DL.quiet (v:=.agg (enc .u8 (pad32 a1.draw))) rfl (Wn.yes c58 rfl rfl rfl rfl) rfl rfl rfl (FImm.quiet (i_loadBoxSub (I:=M4) hm_4 (vs:=encl .u8 (pad32 a1.draw)) rfl rfl ty_a26 ty_s26 rfl rfl) (fun w hc => hE4.imm hc)) ?_
         refine DL.pure (v:=.bool ((pad32 a0.draw) == (pad32 a1.draw))) rfl (Wn.yes c58 rfl rfl rfl rfl) rfl rfl rfl (p_eqAgg ty_g26 (fun w => run_eqRow (d:=9998) ty_ue26 ty_s5 ty_a5 ty_ue5 (pad32_len _) (pad32_len _) w) rfl rfl rfl) ?_
         refine DL.pu 58 (.bool ((pad32 a0.draw) == (pad32 a1.draw))) rfl (p_pick_t c58 rfl rfl rfl) ?_
         obtain rfl:=Option.some.inj h59
         exact DL.weak J57 (Sub.cons rfl (Sub.cons rfl (Sub.cons rfl (Sub.nil _))))
        ·
         replace c58:=Bool.eq_false_iff.mpr c58
         have h60:=ite_false c58 h55
         refine DL.not rfl (Wn.no c58 rfl rfl rfl rfl) rfl rfl ?_
         refine DL.not rfl (Wn.no c58 rfl rfl rfl rfl) rfl rfl ?_
         refine DL.not rfl (Wn.no c58 rfl rfl rfl rfl) rfl rfl ?_
         refine DL.not rfl (Wn.no c58 rfl rfl rfl rfl) rfl rfl ?_
         refine DL.not rfl (Wn.no c58 rfl rfl rfl rfl) rfl rfl ?_
         refine DL.pu 58 (.bool false) rfl (p_pick_f c58 rfl rfl rfl) ?_
         obtain rfl:=Option.some.inj h60
         exact DL.weak J57 (Sub.cons rfl (Sub.cons rfl (Sub.cons rfl (Sub.nil _))))
      ·
       by_cases c50 : q38 = true
       ·
        have h51:=ite_true c50 h47
        refine DL.pure (v:=ptr b1 6) rfl (Wn.yes c50 rfl rfl rfl rfl) rfl rfl rfl (p_fieldAddr ty_f36_6 rfl rfl) ?_
        refine DL.quiet (v:=.agg (enc .u8 (pad32 a0.first))) rfl (Wn.yes c50 rfl rfl rfl rfl) rfl rfl rfl (FImm.quiet (i_loadBoxSub (I:=M4) (hx4 _ _ hm_3) (vs:=encl .u8 (pad32 a0.first)) rfl rfl ty_a26 ty_s26 rfl rfl) (fun w hc => hE4.imm hc)) ?_
        refine DL.pure (v:=ptr b2 6) rfl (Wn.yes c50 rfl rfl rfl rfl) rfl rfl rfl (p_fieldAddr ty_f36_6 rfl rfl) ?_
        refine DL.quiet (v:=.agg (enc .u8 (pad32 a1.first))) rfl (Wn.yes c50 rfl rfl rfl rfl) rfl rfl rfl (FImm.quiet (i_loadBoxSub (I:=M4) hm_4 (vs:=encl .u8 (pad32 a1.first)) rfl rfl ty_a26 ty_s26 rfl rfl) (fun w hc => hE4.imm hc)) ?_
        refine DL.pure (v:=.bool ((pad32 a0.first) == (pad32 a1.first))) rfl (Wn.yes c50 rfl rfl rfl rfl) rfl rfl rfl (p_eqAgg ty_g26 (fun w => run_eqRow (d:=9998) ty_ue26 ty_s5 ty_a5 ty_ue5 (pad32_len _) (pad32_len _) w) rfl rfl rfl) ?_
        refine DL.pu 51 (.bool ((pad32 a0.first) == (pad32 a1.first))) rfl (p_pick_t c50 rfl rfl rfl) ?_
        obtain rfl:=Option.some.inj h51
        exact DL.weak J49 (Sub.cons rfl (Sub.cons rfl (Sub.cons rfl (Sub.nil _))))
       ·
        replace c50:=Bool.eq_false_iff.mpr c50
        have h52:=ite_false c50 h47
        refine DL.not rfl (Wn.no c50 rfl rfl rfl rfl) rfl rfl ?_
        refine DL.not rfl (Wn.no c50 rfl rfl rfl rfl) rfl rfl ?_
        refine DL.not rfl (Wn.no c50 rfl rfl rfl rfl) rfl rfl ?_
        refine DL.not rfl (Wn.no c50 rfl rfl rfl rfl) rfl rfl ?_
        refine DL.not rfl (Wn.no c50 rfl rfl rfl rfl) rfl rfl ?_
        refine DL.pu 51 (.bool false) rfl (p_pick_f c50 rfl rfl rfl) ?_
        obtain rfl:=Option.some.inj h52
        exact DL.weak J49 (Sub.cons rfl (Sub.cons rfl (Sub.cons rfl (Sub.nil _))))
     ·
      by_cases c42 : q30 = true
      ·
       have h43:=ite_true c42 h39
       refine DL.pure (v:=ptr b1 5) rfl (Wn.yes c42 rfl rfl rfl rfl) rfl rfl rfl (p_fieldAddr ty_f36_5 rfl rfl) ?_
       refine DL.quiet (v:=.int .u64 a0.tick) rfl (Wn.yes c42 rfl rfl rfl rfl) rfl rfl rfl (FImm.quiet (i_loadBoxO (I:=M4) (hx4 _ _ hm_3) rfl ty_a24 rfl rfl) (fun w hc => hE4.imm hc)) ?_
       refine DL.pure (v:=ptr b2 5) rfl (Wn.yes c42 rfl rfl rfl rfl) rfl rfl rfl (p_fieldAddr ty_f36_5 rfl rfl) ?_
       refine DL.quiet (v:=.int .u64 a1.tick) rfl (Wn.yes c42 rfl rfl rfl rfl) rfl rfl rfl (FImm.quiet (i_loadBoxO (I:=M4) hm_4 rfl ty_a24 rfl rfl) (fun w hc => hE4.imm hc)) ?_
       refine DL.pure (v:=.bool (a0.tick == a1.tick)) rfl (Wn.yes c42 rfl rfl rfl rfl) rfl rfl rfl (p_eql rfl rfl rfl) ?_
       refine DL.pu 44 (.bool (a0.tick == a1.tick)) rfl (p_pick_t c42 rfl rfl rfl) ?_
       obtain rfl:=Option.some.inj h43
       exact DL.weak J41 (Sub.cons rfl (Sub.cons rfl (Sub.cons rfl (Sub.nil _))))
      ·
       replace c42:=Bool.eq_false_iff.mpr c42
       have h44:=ite_false c42 h39
       refine DL.not rfl (Wn.no c42 rfl rfl rfl rfl) rfl rfl ?_
       refine DL.not rfl (Wn.no c42 rfl rfl rfl rfl) rfl rfl ?_
       refine DL.not rfl (Wn.no c42 rfl rfl rfl rfl) rfl rfl ?_
       refine DL.not rfl (Wn.no c42 rfl rfl rfl rfl) rfl rfl ?_
       refine DL.not rfl (Wn.no c42 rfl rfl rfl rfl) rfl rfl ?_
       refine DL.pu 44 (.bool false) rfl (p_pick_f c42 rfl rfl rfl) ?_
       obtain rfl:=Option.some.inj h44
       exact DL.weak J41 (Sub.cons rfl (Sub.cons rfl (Sub.cons rfl (Sub.nil _))))
    ·
     by_cases c34 : q22 = true
     ·
      have h35:=ite_true c34 h31
      refine DL.pure (v:=ptr b1 4) rfl (Wn.yes c34 rfl rfl rfl rfl) rfl rfl rfl (p_fieldAddr ty_f36_4 rfl rfl) ?_
      refine DL.quiet (v:=.int .u8 a0.byt) rfl (Wn.yes c34 rfl rfl rfl rfl) rfl rfl rfl (FImm.quiet (i_loadBoxO (I:=M4) (hx4 _ _ hm_3) rfl ty_a5 rfl rfl) (fun w hc => hE4.imm hc)) ?_
      refine DL.pure (v:=ptr b2 4) rfl (Wn.yes c34 rfl rfl rfl rfl) rfl rfl rfl (p_fieldAddr ty_f36_4 rfl rfl) ?_
      refine DL.quiet (v:=.int .u8 a1.byt) rfl (Wn.yes c34 rfl rfl rfl rfl) rfl rfl rfl (FImm.quiet (i_loadBoxO (I:=M4) hm_4 rfl ty_a5 rfl rfl) (fun w hc => hE4.imm hc)) ?_
      refine DL.pure (v:=.bool (a0.byt == a1.byt)) rfl (Wn.yes c34 rfl rfl rfl rfl) rfl rfl rfl (p_eql rfl rfl rfl) ?_
      refine DL.pu 37 (.bool (a0.byt == a1.byt)) rfl (p_pick_t c34 rfl rfl rfl) ?_
      obtain rfl:=Option.some.inj h35
      exact DL.weak J33 (Sub.cons rfl (Sub.cons rfl (Sub.cons rfl (Sub.nil _))))
     ·
      replace c34:=Bool.eq_false_iff.mpr c34
      have h36:=ite_false c34 h31
      refine DL.not rfl (Wn.no c34 rfl rfl rfl rfl) rfl rfl ?_
      refine DL.not rfl (Wn.no c34 rfl rfl rfl rfl) rfl rfl ?_
      refine DL.not rfl (Wn.no c34 rfl rfl rfl rfl) rfl rfl ?_
      refine DL.not rfl (Wn.no c34 rfl rfl rfl rfl) rfl rfl ?_
      refine DL.not rfl (Wn.no c34 rfl rfl rfl rfl) rfl rfl ?_
      refine DL.pu 37 (.bool false) rfl (p_pick_f c34 rfl rfl rfl) ?_
      obtain rfl:=Option.some.inj h36
      exact DL.weak J33 (Sub.cons rfl (Sub.cons rfl (Sub.cons rfl (Sub.nil _))))
   ·
    by_cases c26 : q14 = true
    ·
     have h27:=ite_true c26 h23
     refine DL.pure (v:=ptr b1 3) rfl (Wn.yes c26 rfl rfl rfl rfl) rfl rfl rfl (p_fieldAddr ty_f36_3 rfl rfl) ?_
     refine DL.quiet (v:=.int .i64 a0.at_) rfl (Wn.yes c26 rfl rfl rfl rfl) rfl rfl rfl (FImm.quiet (i_loadBoxO (I:=M4) (hx4 _ _ hm_3) rfl ty_a3 rfl rfl) (fun w hc => hE4.imm hc)) ?_
     refine DL.pure (v:=ptr b2 3) rfl (Wn.yes c26 rfl rfl rfl rfl) rfl rfl rfl (p_fieldAddr ty_f36_3 rfl rfl) ?_
     refine DL.quiet (v:=.int .i64 a1.at_) rfl (Wn.yes c26 rfl rfl rfl rfl) rfl rfl rfl (FImm.quiet (i_loadBoxO (I:=M4) hm_4 rfl ty_a3 rfl rfl) (fun w hc => hE4.imm hc)) ?_
     refine DL.pure (v:=.bool (a0.at_ == a1.at_)) rfl (Wn.yes c26 rfl rfl rfl rfl) rfl rfl rfl (p_eql rfl rfl rfl) ?_
     refine DL.pu 30 (.bool (a0.at_ == a1.at_)) rfl (p_pick_t c26 rfl rfl rfl) ?_
     obtain rfl:=Option.some.inj h27
     exact DL.weak J25 (Sub.cons rfl (Sub.cons rfl (Sub.cons rfl (Sub.nil _))))
    ·
     replace c26:=Bool.eq_false_iff.mpr c26
     have h28:=ite_false c26 h23
     refine DL.not rfl (Wn.no c26 rfl rfl rfl rfl) rfl rfl ?_
     refine DL.not rfl (Wn.no c26 rfl rfl rfl rfl) rfl rfl ?_
     refine DL.not rfl (Wn.no c26 rfl rfl rfl rfl) rfl rfl ?_
     refine DL.not rfl (Wn.no c26 rfl rfl rfl rfl) rfl rfl ?_
     refine DL.not rfl (Wn.no c26 rfl rfl rfl rfl) rfl rfl ?_
     refine DL.pu 30 (.bool false) rfl (p_pick_f c26 rfl rfl rfl) ?_
     obtain rfl:=Option.some.inj h28
     exact DL.weak J25 (Sub.cons rfl (Sub.cons rfl (Sub.cons rfl (Sub.nil _))))
  ·
   by_cases c18 : q6 = true
   ·
    have h19:=ite_true c18 h15
    refine DL.pure (v:=ptr b1 2) rfl (Wn.yes c18 rfl rfl rfl rfl) rfl rfl rfl (p_fieldAddr ty_f36_2 rfl rfl) ?_
    refine DL.quiet (v:=.int .i64 a0.n) rfl (Wn.yes c18 rfl rfl rfl rfl) rfl rfl rfl (FImm.quiet (i_loadBoxO (I:=M4) (hx4 _ _ hm_3) rfl ty_a3 rfl rfl) (fun w hc => hE4.imm hc)) ?_
    refine DL.pure (v:=ptr b2 2) rfl (Wn.yes c18 rfl rfl rfl rfl) rfl rfl rfl (p_fieldAddr ty_f36_2 rfl rfl) ?_
    refine DL.quiet (v:=.int .i64 a1.n) rfl (Wn.yes c18 rfl rfl rfl rfl) rfl rfl rfl (FImm.quiet (i_loadBoxO (I:=M4) hm_4 rfl ty_a3 rfl rfl) (fun w hc => hE4.imm hc)) ?_
    refine DL.pure (v:=.bool (a0.n == a1.n)) rfl (Wn.yes c18 rfl rfl rfl rfl) rfl rfl rfl (p_eql rfl rfl rfl) ?_
    refine DL.pu 23 (.bool (a0.n == a1.n)) rfl (p_pick_t c18 rfl rfl rfl) ?_
    obtain rfl:=Option.some.inj h19
    exact DL.weak J17 (Sub.cons rfl (Sub.cons rfl (Sub.cons rfl (Sub.nil _))))
   ·
    replace c18:=Bool.eq_false_iff.mpr c18
    have h20:=ite_false c18 h15
    refine DL.not rfl (Wn.no c18 rfl rfl rfl rfl) rfl rfl ?_
    refine DL.not rfl (Wn.no c18 rfl rfl rfl rfl) rfl rfl ?_
    refine DL.not rfl (Wn.no c18 rfl rfl rfl rfl) rfl rfl ?_
    refine DL.not rfl (Wn.no c18 rfl rfl rfl rfl) rfl rfl ?_
    refine DL.not rfl (Wn.no c18 rfl rfl rfl rfl) rfl rfl ?_
    refine DL.pu 23 (.bool false) rfl (p_pick_f c18 rfl rfl rfl) ?_
    obtain rfl:=Option.some.inj h20
    exact DL.weak J17 (Sub.cons rfl (Sub.cons rfl (Sub.cons rfl (Sub.nil _))))
 ·
  by_cases c10 : (a0.kind == a1.kind) = true
  ·
   have h11:=ite_true c10 h7
   refine DL.pure (v:=ptr b1 1) rfl (Wn.yes c10 rfl rfl rfl rfl) rfl rfl rfl (p_fieldAddr ty_f36_1 rfl rfl) ?_
   refine DL.quiet (v:=.int .i64 a0.client) rfl (Wn.yes c10 rfl rfl rfl rfl) rfl rfl rfl (FImm.quiet (i_loadBoxO (I:=M4) (hx4 _ _ hm_3) rfl ty_a3 rfl rfl) (fun w hc => hE4.imm hc)) ?_
   refine DL.pure (v:=ptr b2 1) rfl (Wn.yes c10 rfl rfl rfl rfl) rfl rfl rfl (p_fieldAddr ty_f36_1 rfl rfl) ?_
   refine DL.quiet (v:=.int .i64 a1.client) rfl (Wn.yes c10 rfl rfl rfl rfl) rfl rfl rfl (FImm.quiet (i_loadBoxO (I:=M4) hm_4 rfl ty_a3 rfl rfl) (fun w hc => hE4.imm hc)) ?_
   refine DL.pure (v:=.bool (a0.client == a1.client)) rfl (Wn.yes c10 rfl rfl rfl rfl) rfl rfl rfl (p_eql rfl rfl rfl) ?_
   refine DL.pu 16 (.bool (a0.client == a1.client)) rfl (p_pick_t c10 rfl rfl rfl) ?_
   obtain rfl:=Option.some.inj h11
   exact DL.weak J9 (Sub.cons rfl (Sub.cons rfl (Sub.cons rfl (Sub.nil _))))
  ·
   replace c10:=Bool.eq_false_iff.mpr c10
   have h12:=ite_false c10 h7
   refine DL.not rfl (Wn.no c10 rfl rfl rfl rfl) rfl rfl ?_
   refine DL.not rfl (Wn.no c10 rfl rfl rfl rfl) rfl rfl ?_
   refine DL.not rfl (Wn.no c10 rfl rfl rfl rfl) rfl rfl ?_
   refine DL.not rfl (Wn.no c10 rfl rfl rfl rfl) rfl rfl ?_
   refine DL.not rfl (Wn.no c10 rfl rfl rfl rfl) rfl rfl ?_
   refine DL.pu 16 (.bool false) rfl (p_pick_f c10 rfl rfl rfl) ?_
   obtain rfl:=Option.some.inj h12
   exact DL.weak J9 (Sub.cons rfl (Sub.cons rfl (Sub.cons rfl (Sub.nil _))))
theorem script_same.val {a0 : Act} {a1 : Act} {a0_108 : Value} {a0_109 : Value} {a0_110 : Value} {a1_108 : Value} {a1_109 : Value} {a1_110 : Value} {r : Bool} (h : script_same.f a0 a1 = some r) {M : Mem} (w : World) (hM : Ext M (heapOf w)) (hr_a0_108 : IntRow M .u8 a0_108 a0.cmd.data) (hr_a0_109 : IntRow M .u8 a0_109 a0.bytes) (hr_a0_110 : IntRow M .i64 a0_110 a0.picks) (hr_a1_108 : IntRow M .u8 a1_108 a1.cmd.data) (hr_a1_109 : IntRow M .u8 a1_109 a1.bytes) (hr_a1_110 : IntRow M .i64 a1_110 a1.picks) : Calls Tryz.prog 61 #[.agg (Act.ce a0 a0_108 a0_109 a0_110),.agg (Act.ce a1 a1_108 a1_109 a1_110)] w fun e w' => e = .returned (.bool r) ∧ Below w.heap.size w w' :=
 calls_value (script_same.ok h w hM hr_a0_108 hr_a0_109 hr_a0_110 hr_a1_108 hr_a1_109 hr_a1_110)

end Go.Proofs.YthldgjbmjgjogaaGreatDoor
