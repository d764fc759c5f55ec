import Derived.Test.YthldgjbmjgjogaaGreatDoorSc1
namespace Go.Proofs.YthldgjbmjgjogaaGreatDoor
open Go Go.HW Go.RowKit
set_option linter.unusedVariables false
set_option linter.unusedSimpArgs false

/-! ### escutcheon/frame.MayCmd: function 92 -/
noncomputable def B92 : Code:=bodyOf Tryz.f92
def frame_MayCmd.f (a0 : Cmd) : Option (Bool):=(frame_bare.f a0).bind fun t4 => (frame_SameCmd.f a0 t4).bind fun t8 => (if (!t8) = true then (some true) else ((frame_Names.f a0.kind).bind fun t19 => some (t19 == zU))).bind fun q12 => if q12 = true then (some false) else ((if (a0.kind == 12) = true then (some true) else (some (a0.kind == 13))).bind fun q27 => (if q27 = true then (some 64) else (some 1024)).bind fun j3_35 => (frame_Names.f a0.kind).bind fun t42 => if (t42 == [116,97]) = true then ((if (decide (a0.typ < 1)) = true then (some true) else (some (decide (3 < a0.typ)))).bind fun q48 => (if q48 = true then (some true) else (some false)).bind fun q56 => (if q56 = true then (some true) else (some false)).bind fun q64 => if q64 = true then (some false) else ((if (decide (a0.attr < 0)) = true then (some true) else (some (decide (63 < a0.attr)))).bind fun q75 => (if q75 = true then (some true) else (some false)).bind fun q83 => if q83 = true then (some false) else (some true))) else (if (t42 == [116,97,107]) = true then ((if (decide (a0.typ < 1)) = true then (some true) else (some (decide (3 < a0.typ)))).bind fun q95 => (if q95 = true then (some true) else (some false)).bind fun q103 => (if q103 = true then (some true) else (some false)).bind fun q111 => if q111 = true then (some false) else ((if (decide (a0.attr < 0)) = true then (some true) else (some (decide (63 < a0.attr)))).bind fun q122 => (if q122 = true then (some true) else (some false)).bind fun q130 => if q130 = true then (some false) else (some true))) else (if (t42 == [104]) = true then (some true) else (if (t42 == [104,100]) = true then (if (decide (j3_35 < (a0.data.length : Int))) = true then (some false) else (some true)) else (if (t42 == [104,111]) = true then (some true) else (if (t42 == [104,97,100]) = true then ((if (decide (a0.attr < 0)) = true then (some true) else (some (decide (63 < a0.attr)))).bind fun q148 => (if q148 = true then (some true) else (some false)).bind fun q156 => if q156 = true then (some false) else (if (decide (j3_35 < (a0.data.length : Int))) = true then (some false) else (some true))) else (if (t42 == [104,116,97,100]) = true then ((if (decide (a0.typ < 1)) = true then (some true) else (some (decide (3 < a0.typ)))).bind fun q171 => (if q171 = true then (some true) else (some false)).bind fun q179 => (if q179 = true then (some true) else (some false)).bind fun q187 => if q187 = true then (some false) else ((if (decide (a0.attr < 0)) = true then (some true) else (some (decide (63 < a0.attr)))).bind fun q198 => (if q198 = true then (some true) else (some false)).bind fun q206 => if q206 = true then (some false) else (if (decide (j3_35 < (a0.data.length : Int))) = true then (some false) else (some true)))) else (if (t42 == [104,97]) = true then ((if (decide (a0.attr < 0)) = true then (some true) else (some (decide (63 < a0.attr)))).bind fun q221 => (if q221 = true then (some true) else (some false)).bind fun q229 => if q229 = true then (some false) else (some true)) else (if (t42 == zU) = true then (some true) else (none))))))))))
set_option maxRecDepth 20000 in
theorem frame_MayCmd.ok {a0 : Cmd} {a0_38 : Value} {r : Bool} (h : frame_MayCmd.f a0 = some r) {M : Mem} (w : World) (hM : Ext M (heapOf w)) (hr_a0_38 : IntRow M .u8 a0_38 a0.data) : Calls Tryz.prog 92 #[.agg (Cmd.ce a0 a0_38)] w (Post (fun u => u = .bool r) w):=by
 unfold frame_MayCmd.f at h
 have hE:=Env.start hM
 refine calls_of_TT (N:=69) (S:=[(0,.agg (Cmd.ce a0 a0_38))]) (c:=B92) Tryz.func92 rfl rfl rfl (by simp) ?_
 show TT _ _ _ _ _ _ [.code (sub [] B92)] _ _
 refine TT.sq rfl ?_
 refine TT.rg [0,1] [kA,kp] rfl rfl ?_
 refine DL.new (ob:=.cells ((Cmd.ce a0 a0_38)) 33) (mk:=fun b => ptr b 0) (i:=0) rfl (Wn.none rfl) rfl rfl rfl (f_box (v:=.agg (Cmd.ce a0 a0_38)) rfl rfl) ?_
 intro b1 hb1
 refine DL.pu 2 (.bool false) rfl (p_assign rfl rfl) ?_
 refine DL.nil ?_
 refine TT.freezeAt (j:=0) hE rfl ?_
 intro M2 I2 hE2 hx2 hxI2 hb2
 have hm_2 : M2 b1 = some (.cells ((Cmd.ce a0 a0_38)) 33 (0,0)):=hb2 _ rfl
 show TT _ _ _ _ _ _ _ _ []
 refine TT.sq rfl ?_
 refine TT.sq rfl ?_
 refine TT.rgD [0,1,2,3,4,5,6,7,8,9,10] [0,0,2,7,15,31,63,127,255,511,1023] [kq,kq,kk,kq,kp,kp,kp,kq,kq,kp,kp] rfl mixed (by kernel_rfl) ?_
 intro w3 hl3 hj3 hz3
 refine DL.qu 6 (.agg (Cmd.ce a0 a0_38)) rfl (FImm.quiet (i_loadBoxA (I:=M2) hm_2 rfl ty_a33 ty_s33 rfl rfl) (fun w hc => hE2.imm hc)) ?_
 refine DL.qu 7 (.agg (Cmd.ce a0 a0_38)) rfl (FImm.quiet (i_loadBoxA (I:=M2) hm_2 rfl ty_a33 ty_s33 rfl rfl) (fun w hc => hE2.imm hc)) ?_
 obtain ⟨t4,h5,h6⟩:=bind_some h
 refine DL.callF (G:=Value) (u:=fun g => .agg (Cmd.ce t4 g)) (Q:=fun g M_ => (IntRow M_ .u8 g t4.data)) (A:=[]) (J:=[]) (fun J7 => (J7)) hl3.2.2.2 hE2.nil (List.append_nil _).symm (fun _ => rfl) (by simp) (i:=2) rfl (Wn.none rfl) rfl rfl rfl rfl rfl rfl (args_val (vs:=[.agg (Cmd.ce a0 a0_38)]) rfl) (fun w => enter115 _ w) (fun w hc hI => frame_bare.ok h5 (M:=M2) w hI (IntRow.mono hr_a0_38 hx2)) ?_
 rintro t4_38 M7 J7 hE7 hx7 hr_t4_38
 obtain ⟨t8,h9,h10⟩:=bind_some h6
 refine DL.qu 9 (.bool t8) rfl (f_callR rfl rfl (args_val (vs:=[.agg (Cmd.ce a0 a0_38),.agg (Cmd.ce t4 t4_38)]) rfl) (fun w => enter98 _ w) (fun w hc => frame_SameCmd.val h9 (M:=M7) w (hE7.extJ (A:=[]) hc rfl) (IntRow.mono hr_a0_38 (hx2.trans hx7)) hr_t4_38)) ?_
 refine DL.pu 10 (.bool (!t8)) rfl (p_not rfl rfl) ?_
 refine DL.mv 11 (.bool (!t8)) rfl rfl rfl ?_
 obtain ⟨q12,h13,h14⟩:=bind_some h10
 refine DL.cut [(1,ptr b1 0),(16,.bool q12)] [] ?_ (fun J15 => ?_)
 ·
  refine DL.nil' hl3 ?_
  refine TT.settle (A:=[]) (J:=J7) hE7 ?_
  intro I22 hE22 hxI22
  by_cases c23 : q12 = true
  ·
   have h24:=ite_true c23 h14
   refine TT.ct rfl rfl c23 ?_
   refine TT.sq rfl ?_
   refine TT.rg [0] [kp] rfl rfl ?_
   refine DL.pu 2 (.bool false) rfl (p_assign rfl rfl) ?_
   refine DL.nil ?_
   obtain rfl:=Option.some.inj h24
   exact retnE (rs:=[.tmp 2]) (vs:=[.bool false]) hE22.base Tryz.func92 rfl rfl rfl (res_cons (ResV.tmp rfl) res_nil) rfl
  ·
   replace c23:=Bool.eq_false_iff.mpr c23
   have h25:=ite_false c23 h14
   refine TT.cf rfl rfl c23 ?_
   refine TT.skip ?_
   refine TT.sq rfl ?_
   refine TT.rg [0] [kp] rfl rfl ?_
   refine DL.pu 3 (.int .i64 1024) rfl (p_assign rfl rfl) ?_
   refine DL.nil ?_
   refine TT.sq rfl ?_
   refine TT.sq rfl ?_
   refine TT.rg [0,1,2,3,4,5,6,7] [kp,kq,kp,kp,kp,kq,kp,kp] rfl rfl ?_
   refine DL.pu 17 (ptr b1 1) rfl (p_fieldAddr ty_f33_1 rfl rfl) ?_
   refine DL.qu 18 (.int .i64 a0.kind) rfl (FImm.quiet (i_loadBoxO (I:=M7) (hx7 _ _ hm_2) rfl ty_a27 rfl rfl) (fun w hc => hE22.imm hc)) ?_
   refine DL.pu 19 (.bool (a0.kind == 12)) rfl (p_eql rfl rfl rfl) ?_
   refine DL.mv 20 (.bool (a0.kind == 12)) rfl rfl rfl ?_
   obtain ⟨q27,h28,h29⟩:=bind_some h25
   refine DL.cut [(1,ptr b1 0),(3,.int .i64 1024),(24,.bool q27)] [] ?_ (fun J30 => ?_)
   ·
    refine DL.nil ?_
    obtain ⟨j3_35,h36,h37⟩:=bind_some h29
    have J38 : TT Tryz.prog 92 (Post (fun u => u = .bool r) w) 69 w I22 (.code (sub [1,1,1,1] B92) :: []) [(1,ptr b1 0),(3,.int .i64 j3_35)] []:=by
     refine TT.sq rfl ?_
     refine TT.sq rfl ?_
     refine TT.rg [0,1,2,3] [kp,kq,kq,kk] rfl rfl ?_
     refine DL.pu 25 (ptr b1 1) rfl (p_fieldAddr ty_f33_1 rfl rfl) ?_
     refine DL.qu 26 (.int .i64 a0.kind) rfl (FImm.quiet (i_loadBoxO (I:=M7) (hx7 _ _ hm_2) rfl ty_a27 rfl rfl) (fun w hc => hE22.imm hc)) ?_
     obtain ⟨t42,h43,h44⟩:=bind_some h37
     refine DL.qu 27 (str t42) rfl (f_callR rfl rfl (args_val (vs:=[.int .i64 a0.kind]) rfl) (fun w => enter48 _ w) (fun w hc => frame_Names.val h43 (M:=M7) w (hE22.ext hc) )) ?_
     by_cases hs45_0 : t42 = [116,97]
     ·
      subst hs45_0
      replace h44:=(if_pos (by decide)).symm.trans h44
      refine DL.keep (X:=Nat) (u:=fun b => ptr b 0) (H':=fun b => (some b,.stringIter ⟨#[116,97]⟩ 0) :: []) (fun _ p hp => List.mem_cons_of_mem _ hp) (i:=3) rfl (Wn.none rfl) rfl rfl rfl (f_rangeText (s:=⟨#[116,97]⟩) (by kernel_rfl : Tryz.prog.underlying 9 = some .string) rfl rfl) ?_
      intro b46
      refine DL.nil ?_
      refine TT.bk rfl ?_
      refine TT.lp rfl ?_
      refine TT.sq rfl ?_
      refine TT.rg [0,1] [kx,kp] rfl rfl ?_
      refine DL.chr (j:=0) (c:=116) (wd:=1) rfl rfl rfl rfl rfl rfl (by decide) (by kernel_rfl) rfl rfl ?_
      refine DL.pu 30 (.bool true) rfl (p_extract rfl rfl rfl) ?_
      refine DL.nil ?_
      refine TT.sq rfl ?_
      refine TT.ct rfl rfl rfl ?_
      refine TT.skip ?_
      refine TT.bk rfl ?_
      refine TT.sq rfl ?_
      refine TT.rg [0,1] [kp,kp] rfl rfl ?_
      refine DL.pu 31 (.int .i32 116) rfl (p_extract rfl rfl rfl) ?_
      refine DL.pu 5 (.int .i32 116) rfl (p_assign rfl rfl) ?_
      refine DL.nil ?_
      refine TT.sq rfl ?_
      refine TT.rg [0,1,2,3,4,5,6,7,8,9,10,11,12,13,14,15,16,17,18,19,20,21,22,23,24,25,26,27,28,29,30,31,32,33,34,35,36] [kp,kp,kp,kp,kq,kp,kp,kp,kq,kp,kp,kp,kp,kp,kp,kp,kp,kq,kp,kp,kp,kq,kp,kp,kp,kp,kp,kp,kp,kp,kp,kq,kp,kp,kp,kp,kp] rfl rfl ?_
      refine DL.mv 32 (.int .i32 116) rfl rfl rfl ?_
      refine DL.pu 33 (.bool true) rfl (show FPure _ _ _ (.bool ((116 : Int) == (116 : Int))) from p_eql rfl rfl rfl) ?_
      refine DL.mv 34 (.bool true) rfl rfl rfl ?_
      refine DL.pure (v:=ptr b1 4) rfl (Wn.some rfl rfl rfl rfl) rfl rfl rfl (p_fieldAddr ty_f33_4 rfl rfl) ?_
      refine DL.quiet (v:=.int .i64 a0.typ) rfl (Wn.some rfl rfl rfl rfl) rfl rfl rfl (FImm.quiet (i_loadBoxO (I:=M7) (hx7 _ _ hm_2) rfl ty_a29 rfl rfl) (fun w hc => hE22.imm hc)) ?_
      refine DL.pure (v:=.bool (decide (a0.typ < 1))) rfl (Wn.some rfl rfl rfl rfl) rfl rfl rfl (p_lss rfl rfl rfl) ?_
      refine DL.pure (v:=.bool (decide (a0.typ < 1))) rfl (Wn.some rfl rfl rfl rfl) rfl rfl rfl (p_move rfl rfl) ?_
      obtain ⟨q48,h49,h50⟩:=bind_some h44
      refine DL.cut [(1,ptr b1 0),(3,.int .i64 j3_35),(5,.int .i32 116),(28,ptr b46 0),(34,.bool true),(35,ptr b1 4),(36,.int .i64 a0.typ),(37,.bool (decide (a0.typ < 1))),(38,.bool (decide (a0.typ < 1))),(42,.bool q48)] [11,12,13,14,15,16,17,18,19,20,21,22,23,24,25,26,27,28,29,30,31,32,33,34,35,36] ?_ (fun J51 => ?_)
      ·
       refine DL.pu 43 (.bool q48) rfl (p_pick_true rfl rfl rfl) ?_
       refine DL.mv 44 (.bool q48) rfl rfl rfl ?_
       obtain ⟨q56,h57,h58⟩:=bind_some h50
       refine DL.cut [(1,ptr b1 0),(3,.int .i64 j3_35),(5,.int .i32 116),(28,ptr b46 0),(35,ptr b1 4),(36,.int .i64 a0.typ),(37,.bool (decide (a0.typ < 1))),(38,.bool (decide (a0.typ < 1))),(42,.bool q48),(57,.bool q56)] [26,27,28,29,30,31,32,33,34,35,36] ?_ (fun J59 => ?_)
       ·
        refine DL.mv 58 (.bool q56) rfl rfl rfl ?_
        obtain ⟨q64,h65,h66⟩:=bind_some h58
        refine DL.cut [(1,ptr b1 0),(3,.int .i64 j3_35),(28,ptr b46 0),(35,ptr b1 4),(36,.int .i64 a0.typ),(37,.bool (decide (a0.typ < 1))),(38,.bool (decide (a0.typ < 1))),(42,.bool q48),(68,.bool q64)] [] ?_ (fun J67 => ?_)
        ·
         refine DL.nil ?_
         by_cases c71 : q64 = true
         ·
          have h72:=ite_true c71 h66
          refine TT.ct rfl rfl c71 ?_
          refine TT.sq rfl ?_
          refine TT.rg [0] [kp] rfl rfl ?_
          refine DL.pu 2 (.bool false) rfl (p_assign rfl rfl) ?_
          refine DL.nil ?_
          obtain rfl:=Option.some.inj h72
          exact retnE (rs:=[.tmp 2]) (vs:=[.bool false]) hE22.base Tryz.func92 rfl rfl rfl (res_cons (ResV.tmp rfl) res_nil) rfl
         ·
          replace c71:=Bool.eq_false_iff.mpr c71
          have h73:=ite_false c71 h66
          refine TT.cf rfl rfl c71 ?_
          refine TT.skip ?_
          refine TT.inBlock ?_
          refine TT.inLoop ?_
          refine TT.sq rfl ?_
          refine TT.rg [0,1] [kx,kp] rfl rfl ?_
          refine DL.chr (j:=0) (c:=97) (wd:=1) rfl rfl rfl rfl rfl rfl (by decide) (by kernel_rfl) rfl rfl ?_
          refine DL.pu 30 (.bool true) rfl (p_extract rfl rfl rfl) ?_
          refine DL.nil ?_
          refine TT.sq rfl ?_
          refine TT.ct rfl rfl rfl ?_
          refine TT.skip ?_
          refine TT.bk rfl ?_
          refine TT.sq rfl ?_
          refine TT.rg [0,1] [kp,kp] rfl rfl ?_
          refine DL.pu 31 (.int .i32 97) rfl (p_extract rfl rfl rfl) ?_
          refine DL.pu 5 (.int .i32 97) rfl (p_assign rfl rfl) ?_
          refine DL.nil ?_
          refine TT.sq rfl ?_
          refine TT.rg [0,1,2,3,4,5,6,7,8,9,10,11,12,13,14,15,16,17,18,19,20,21,22,23,24,25,26,27,28,29,30,31,32,33,34,35,36] [kp,kp,kp,kp,kq,kp,kp,kp,kq,kp,kp,kp,kp,kp,kp,kp,kp,kq,kp,kp,kp,kq,kp,kp,kp,kp,kp,kp,kp,kp,kp,kq,kp,kp,kp,kp,kp] rfl rfl ?_
          refine DL.mv 32 (.int .i32 97) rfl rfl rfl ?_
          refine DL.pu 33 (.bool false) rfl (show FPure _ _ _ (.bool ((97 : Int) == (116 : Int))) from p_eql rfl rfl rfl) ?_
          refine DL.mv 34 (.bool false) rfl rfl rfl ?_
          refine DL.nt rfl rfl rfl rfl rfl rfl rfl ?_
          refine DL.nt rfl rfl rfl rfl rfl rfl rfl ?_
          refine DL.nt rfl rfl rfl rfl rfl rfl rfl ?_
          refine DL.nt rfl rfl rfl rfl rfl rfl rfl ?_
          refine DL.not rfl (Wn.undef rfl rfl rfl) rfl rfl ?_
          refine DL.not rfl (Wn.undef rfl rfl rfl) rfl rfl ?_
          refine DL.not rfl (Wn.undef rfl rfl rfl) rfl rfl ?_
          refine DL.nt rfl rfl rfl rfl rfl rfl rfl ?_
          refine DL.pu 43 (.bool false) rfl (p_pick_false rfl rfl rfl) ?_
          refine DL.mv 44 (.bool false) rfl rfl rfl ?_
          refine DL.pure (v:=.int .i32 97) rfl (Wn.some rfl rfl rfl rfl) rfl rfl rfl (p_move rfl rfl) ?_
          refine DL.pure (v:=.bool true) rfl (Wn.some rfl rfl rfl rfl) rfl rfl rfl (show FPure _ _ _ (.bool ((97 : Int) == (97 : Int))) from p_eql rfl rfl rfl) ?_
          refine DL.pure (v:=.bool true) rfl (Wn.some rfl rfl rfl rfl) rfl rfl rfl (p_move rfl rfl) ?_
          refine DL.pure (v:=ptr b1 5) rfl (Wn.some rfl rfl rfl rfl) rfl rfl rfl (p_fieldAddr ty_f33_5 rfl rfl) ?_
          refine DL.quiet (v:=.int .i64 a0.attr) rfl (Wn.some rfl rfl rfl rfl) rfl rfl rfl (FImm.quiet (i_loadBoxO (I:=M7) (hx7 _ _ hm_2) rfl ty_a30 rfl rfl) (fun w hc => hE22.imm hc)) ?_
          refine DL.pure (v:=.bool (decide (a0.attr < 0))) rfl (Wn.some rfl rfl rfl rfl) rfl rfl rfl (p_lss rfl rfl rfl) ?_
          refine DL.pure (v:=.bool (decide (a0.attr < 0))) rfl (Wn.some rfl rfl rfl rfl) rfl rfl rfl (p_move rfl rfl) ?_
          obtain ⟨q75,h76,h77⟩:=bind_some h73
          refine DL.cut [(1,ptr b1 0),(3,.int .i64 j3_35),(5,.int .i32 97),(28,ptr b46 0),(35,undef),(36,undef),(37,undef),(38,undef),(39,undef),(40,undef),(41,undef),(42,undef),(44,.bool false),(45,.int .i32 97),(46,.bool true),(47,.bool true),(48,ptr b1 5),(49,.int .i64 a0.attr),(50,.bool (decide (a0.attr < 0))),(51,.bool (decide (a0.attr < 0))),(55,.bool q75)] [24,25,26,27,28,29,30,31,32,33,34,35,36] ?_ (fun J78 => ?_)
          ·
           refine DL.pure (v:=.bool q75) rfl (Wn.some rfl rfl rfl rfl) rfl rfl rfl (p_pick_true rfl rfl rfl) ?_
           refine DL.pu 57 (.bool q75) rfl (p_pick_false rfl rfl rfl) ?_
           refine DL.mv 58 (.bool q75) rfl rfl rfl ?_
           obtain ⟨q83,h84,h85⟩:=bind_some h77
           refine DL.cut [(1,ptr b1 0),(3,.int .i64 j3_35),(28,ptr b46 0),(35,undef),(36,undef),(37,undef),(38,undef),(39,undef),(40,undef),(41,undef),(42,undef),(45,.int .i32 97),(46,.bool true),(47,.bool true),(48,ptr b1 5),(49,.int .i64 a0.attr),(50,.bool (decide (a0.attr < 0))),(51,.bool (decide (a0.attr < 0))),(55,.bool q75),(56,.bool q75),(68,.bool q83)] [] ?_ (fun J86 => ?_)
           ·
            refine DL.nil ?_
            by_cases c90 : q83 = true
            ·
             have h91:=ite_true c90 h85
             refine TT.ct rfl rfl c90 ?_
             refine TT.sq rfl ?_
             refine TT.rg [0] [kp] rfl rfl ?_
             refine DL.pu 2 (.bool false) rfl (p_assign rfl rfl) ?_
             refine DL.nil ?_
             obtain rfl:=Option.some.inj h91
             exact retnE (rs:=[.tmp 2]) (vs:=[.bool false]) hE22.base Tryz.func92 rfl rfl rfl (res_cons (ResV.tmp rfl) res_nil) rfl
            ·
             replace c90:=Bool.eq_false_iff.mpr c90
             have h92:=ite_false c90 h85
             refine TT.cf rfl rfl c90 ?_
             refine TT.skip ?_
             refine TT.inBlock ?_
             refine TT.inLoop ?_
             refine TT.sq rfl ?_
             refine TT.rg [0,1] [kx,kp] rfl rfl ?_
             refine DL.chrE (j:=0) rfl rfl rfl rfl rfl rfl (by decide) rfl rfl ?_
             refine DL.pu 30 (.bool false) rfl (p_extract rfl rfl rfl) ?_
             refine DL.nil ?_
             refine TT.sq rfl ?_
             refine TT.cf rfl rfl rfl ?_
             refine TT.exit rfl ?_
             refine TT.sq rfl ?_
             refine TT.rg [0] [kp] rfl rfl ?_
             refine DL.pu 2 (.bool true) rfl (p_assign rfl rfl) ?_
             refine DL.nil ?_
             obtain rfl:=Option.some.inj h92
             exact retnE (rs:=[.tmp 2]) (vs:=[.bool true]) hE22.base Tryz.func92 rfl rfl rfl (res_cons (ResV.tmp rfl) res_nil) rfl
           ·
            by_cases c87 : q75 = true
            ·
             have h88:=ite_true c87 h84
             refine DL.not rfl (Wn.yes c87 rfl rfl rfl rfl) rfl rfl ?_
             refine DL.not rfl (Wn.yes c87 rfl rfl rfl rfl) rfl rfl ?_
             refine DL.not rfl (Wn.yes c87 rfl rfl rfl rfl) rfl rfl ?_
             refine DL.not rfl (Wn.undef rfl rfl rfl) rfl rfl ?_
             refine DL.not rfl (Wn.undef rfl rfl rfl) rfl rfl ?_
             refine DL.not rfl (Wn.undef rfl rfl rfl) rfl rfl ?_
             refine DL.not rfl (Wn.undef rfl rfl rfl) rfl rfl ?_
             refine DL.not rfl (Wn.undef rfl rfl rfl) rfl rfl ?_
             refine DL.not rfl (Wn.yes c87 rfl rfl rfl rfl) rfl rfl ?_
             refine DL.pu 68 (.bool true) rfl (p_pick_t c87 rfl rfl rfl) ?_
             obtain rfl:=Option.some.inj h88
             exact DL.weak J86 (Sub.cons rfl (Sub.cons rfl (Sub.cons rfl (Sub.cons rfl (Sub.cons rfl (Sub.cons rfl (Sub.cons rfl (Sub.cons rfl (Sub.cons rfl (Sub.cons rfl (Sub.cons rfl (Sub.cons rfl (Sub.cons rfl (Sub.cons rfl (Sub.cons rfl (Sub.cons rfl (Sub.cons rfl (Sub.cons rfl (Sub.cons rfl (Sub.cons rfl (Sub.cons rfl (Sub.nil _))))))))))))))))))))))
            ·
             replace c87:=Bool.eq_false_iff.mpr c87
             have h89:=ite_false c87 h84
             refine DL.pure (v:=.int .i32 97) rfl (Wn.no c87 rfl rfl rfl rfl) rfl rfl rfl (p_move rfl rfl) ?_
             refine DL.pure (v:=.bool false) rfl (Wn.no c87 rfl rfl rfl rfl) rfl rfl rfl (show FPure _ _ _ (.bool ((97 : Int) == (100 : Int))) from p_eql rfl rfl rfl) ?_
             refine DL.pure (v:=.bool false) rfl (Wn.no c87 rfl rfl rfl rfl) rfl rfl rfl (p_move rfl rfl) ?_
             refine DL.nt rfl rfl rfl rfl rfl rfl rfl ?_
             refine DL.nt rfl rfl rfl rfl rfl rfl rfl ?_
             refine DL.nt rfl rfl rfl rfl rfl rfl rfl ?_
             refine DL.nt rfl rfl rfl rfl rfl rfl rfl ?_
             refine DL.nt rfl rfl rfl rfl rfl rfl rfl ?_
             refine DL.pure (v:=.bool false) rfl (Wn.no c87 rfl rfl rfl rfl) rfl rfl rfl (p_pick_false rfl rfl rfl) ?_
             refine DL.pu 68 (.bool false) rfl (p_pick_f c87 rfl rfl rfl) ?_
             obtain rfl:=Option.some.inj h89
             exact DL.weak J86 (Sub.cons rfl (Sub.cons rfl (Sub.cons rfl (Sub.cons rfl (Sub.cons rfl (Sub.cons rfl (Sub.cons rfl (Sub.cons rfl (Sub.cons rfl (Sub.cons rfl (Sub.cons rfl (Sub.cons rfl (Sub.cons rfl (Sub.cons rfl (Sub.cons rfl (Sub.cons rfl (Sub.cons rfl (Sub.cons rfl (Sub.cons rfl (Sub.cons rfl (Sub.cons rfl (Sub.nil _))))))))))))))))))))))
          ·
           by_cases c79 : (decide (a0.attr < 0)) = true
           ·
            have h80:=ite_true c79 h76
            refine DL.not rfl (Wn.yes c79 rfl rfl rfl rfl) rfl rfl ?_
            refine DL.not rfl (Wn.yes c79 rfl rfl rfl rfl) rfl rfl ?_
            refine DL.not rfl (Wn.yes c79 rfl rfl rfl rfl) rfl rfl ?_
            refine DL.pure (v:=.bool true) rfl (Wn.some rfl rfl rfl rfl) rfl rfl rfl (p_pick_t c79 rfl rfl rfl) ?_
            obtain rfl:=Option.some.inj h80
            exact DL.weak J78 (Sub.cons rfl (Sub.cons rfl (Sub.cons rfl (Sub.cons rfl (Sub.cons rfl (Sub.cons rfl (Sub.cons rfl (Sub.cons rfl (Sub.cons rfl (Sub.cons rfl (Sub.cons rfl (Sub.cons rfl (Sub.cons rfl (Sub.cons rfl (Sub.cons rfl (Sub.cons rfl (Sub.cons rfl (Sub.cons rfl (Sub.cons rfl (Sub.cons rfl (Sub.cons rfl (Sub.nil _))))))))))))))))))))))
           ·
            replace c79:=Bool.eq_false_iff.mpr c79
            have h81:=ite_false c79 h76
            refine DL.pure (v:=ptr b1 5) rfl (Wn.no c79 rfl rfl rfl rfl) rfl rfl rfl (p_fieldAddr ty_f33_5 rfl rfl) ?_
            refine DL.quiet (v:=.int .i64 a0.attr) rfl (Wn.no c79 rfl rfl rfl rfl) rfl rfl rfl (FImm.quiet (i_loadBoxO (I:=M7) (hx7 _ _ hm_2) rfl ty_a30 rfl rfl) (fun w hc => hE22.imm hc)) ?_
            refine DL.pure (v:=.bool (decide (63 < a0.attr))) rfl (Wn.no c79 rfl rfl rfl rfl) rfl rfl rfl (p_gtr rfl rfl rfl) ?_
            refine DL.pure (v:=.bool (decide (63 < a0.attr))) rfl (Wn.some rfl rfl rfl rfl) rfl rfl rfl (p_pick_f c79 rfl rfl rfl) ?_
            obtain rfl:=Option.some.inj h81
            exact DL.weak J78 (Sub.cons rfl (Sub.cons rfl (Sub.cons rfl (Sub.cons rfl (Sub.cons rfl (Sub.cons rfl (Sub.cons rfl (Sub.cons rfl (Sub.cons rfl (Sub.cons rfl (Sub.cons rfl (Sub.cons rfl (Sub.cons rfl (Sub.cons rfl (Sub.cons rfl (Sub.cons rfl (Sub.cons rfl (Sub.cons rfl (Sub.cons rfl (Sub.cons rfl (Sub.cons rfl (Sub.nil _))))))))))))))))))))))
        ·
         by_cases c68 : q56 = true
         ·
          have h69:=ite_true c68 h65
          refine DL.not rfl (Wn.yes c68 rfl rfl rfl rfl) rfl rfl ?_
          refine DL.not rfl (Wn.yes c68 rfl rfl rfl rfl) rfl rfl ?_
          refine DL.not rfl (Wn.yes c68 rfl rfl rfl rfl) rfl rfl ?_
          refine DL.not rfl (Wn.undef rfl rfl rfl) rfl rfl ?_
          refine DL.not rfl (Wn.undef rfl rfl rfl) rfl rfl ?_
          refine DL.not rfl (Wn.undef rfl rfl rfl) rfl rfl ?_
          refine DL.not rfl (Wn.undef rfl rfl rfl) rfl rfl ?_
          refine DL.not rfl (Wn.undef rfl rfl rfl) rfl rfl ?_
          refine DL.not rfl (Wn.yes c68 rfl rfl rfl rfl) rfl rfl ?_
          refine DL.pu 68 (.bool true) rfl (p_pick_t c68 rfl rfl rfl) ?_
          obtain rfl:=Option.some.inj h69
          exact DL.weak J67 (Sub.cons rfl (Sub.cons rfl (Sub.cons rfl (Sub.cons rfl (Sub.cons rfl (Sub.cons rfl (Sub.cons rfl (Sub.cons rfl (Sub.cons rfl (Sub.nil _))))))))))
         ·
          replace c68:=Bool.eq_false_iff.mpr c68
          have h70:=ite_false c68 h65
          refine DL.pure (v:=.int .i32 116) rfl (Wn.no c68 rfl rfl rfl rfl) rfl rfl rfl (p_move rfl rfl) ?_
          refine DL.pure (v:=.bool false) rfl (Wn.no c68 rfl rfl rfl rfl) rfl rfl rfl (show FPure _ _ _ (.bool ((116 : Int) == (100 : Int))) from p_eql rfl rfl rfl) ?_
          refine DL.pure (v:=.bool false) rfl (Wn.no c68 rfl rfl rfl rfl) rfl rfl rfl (p_move rfl rfl) ?_
          refine DL.nt rfl rfl rfl rfl rfl rfl rfl ?_
          refine DL.nt rfl rfl rfl rfl rfl rfl rfl ?_
          refine DL.nt rfl rfl rfl rfl rfl rfl rfl ?_
          refine DL.nt rfl rfl rfl rfl rfl rfl rfl ?_
          refine DL.nt rfl rfl rfl rfl rfl rfl rfl ?_
          refine DL.pure (v:=.bool false) rfl (Wn.no c68 rfl rfl rfl rfl) rfl rfl rfl (p_pick_false rfl rfl rfl) ?_
          refine DL.pu 68 (.bool false) rfl (p_pick_f c68 rfl rfl rfl) ?_
          obtain rfl:=Option.some.inj h70
          exact DL.weak J67 (Sub.cons rfl (Sub.cons rfl (Sub.cons rfl (Sub.cons rfl (Sub.cons rfl (Sub.cons rfl (Sub.cons rfl (Sub.cons rfl (Sub.cons rfl (Sub.nil _))))))))))
       ·
        by_cases c60 : q48 = true
        ·
         have h61:=ite_true c60 h57
         refine DL.not rfl (Wn.yes c60 rfl rfl rfl rfl) rfl rfl ?_
         refine DL.not rfl (Wn.yes c60 rfl rfl rfl rfl) rfl rfl ?_
         refine DL.not rfl (Wn.yes c60 rfl rfl rfl rfl) rfl rfl ?_
         refine DL.not rfl (Wn.undef rfl rfl rfl) rfl rfl ?_
         refine DL.not rfl (Wn.undef rfl rfl rfl) rfl rfl ?_
         refine DL.not rfl (Wn.undef rfl rfl rfl) rfl rfl ?_
         refine DL.not rfl (Wn.undef rfl rfl rfl) rfl rfl ?_
         refine DL.not rfl (Wn.undef rfl rfl rfl) rfl rfl ?_
         refine DL.not rfl (Wn.undef rfl rfl rfl) rfl rfl ?_
         refine DL.not rfl (Wn.undef rfl rfl rfl) rfl rfl ?_
         refine DL.not rfl (Wn.undef rfl rfl rfl) rfl rfl ?_
         refine DL.not rfl (Wn.yes c60 rfl rfl rfl rfl) rfl rfl ?_
         refine DL.pu 57 (.bool true) rfl (p_pick_t c60 rfl rfl rfl) ?_
         obtain rfl:=Option.some.inj h61
         exact DL.weak J59 (Sub.cons rfl (Sub.cons rfl (Sub.cons rfl (Sub.cons rfl (Sub.cons rfl (Sub.cons rfl (Sub.cons rfl (Sub.cons rfl (Sub.cons rfl (Sub.cons rfl (Sub.nil _)))))))))))
        ·
         replace c60:=Bool.eq_false_iff.mpr c60
         have h62:=ite_false c60 h57
         refine DL.pure (v:=.int .i32 116) rfl (Wn.no c60 rfl rfl rfl rfl) rfl rfl rfl (p_move rfl rfl) ?_
         refine DL.pure (v:=.bool false) rfl (Wn.no c60 rfl rfl rfl rfl) rfl rfl rfl (show FPure _ _ _ (.bool ((116 : Int) == (97 : Int))) from p_eql rfl rfl rfl) ?_
         refine DL.pure (v:=.bool false) rfl (Wn.no c60 rfl rfl rfl rfl) rfl rfl rfl (p_move rfl rfl) ?_
         refine DL.nt rfl rfl rfl rfl rfl rfl rfl ?_
         refine DL.nt rfl rfl rfl rfl rfl rfl rfl ?_
         refine DL.nt rfl rfl rfl rfl rfl rfl rfl ?_
         refine DL.nt rfl rfl rfl rfl rfl rfl rfl ?_
         refine DL.not rfl (Wn.undef rfl rfl rfl) rfl rfl ?_
         refine DL.not rfl (Wn.undef rfl rfl rfl) rfl rfl ?_
         refine DL.not rfl (Wn.undef rfl rfl rfl) rfl rfl ?_
         refine DL.nt rfl rfl rfl rfl rfl rfl rfl ?_
         refine DL.pure (v:=.bool false) rfl (Wn.no c60 rfl rfl rfl rfl) rfl rfl rfl (p_pick_false rfl rfl rfl) ?_
         refine DL.pu 57 (.bool false) rfl (p_pick_f c60 rfl rfl rfl) ?_
         obtain rfl:=Option.some.inj h62
         exact DL.weak J59 (Sub.cons rfl (Sub.cons rfl (Sub.cons rfl (Sub.cons rfl (Sub.cons rfl (Sub.cons rfl (Sub.cons rfl (Sub.cons rfl (Sub.cons rfl (Sub.cons rfl (Sub.nil _)))))))))))
      ·
       by_cases c52 : (decide (a0.typ < 1)) = true
       ·
        have h53:=ite_true c52 h49
        refine DL.not rfl (Wn.yes c52 rfl rfl rfl rfl) rfl rfl ?_
        refine DL.not rfl (Wn.yes c52 rfl rfl rfl rfl) rfl rfl ?_
        refine DL.not rfl (Wn.yes c52 rfl rfl rfl rfl) rfl rfl ?_
        refine DL.pure (v:=.bool true) rfl (Wn.some rfl rfl rfl rfl) rfl rfl rfl (p_pick_t c52 rfl rfl rfl) ?_
        obtain rfl:=Option.some.inj h53
        exact DL.weak J51 (Sub.cons rfl (Sub.cons rfl (Sub.cons rfl (Sub.cons rfl (Sub.cons rfl (Sub.cons rfl (Sub.cons rfl (Sub.cons rfl (Sub.cons rfl (Sub.cons rfl (Sub.nil _)))))))))))
       ·
        replace c52:=Bool.eq_false_iff.mpr c52
        have h54:=ite_false c52 h49
        refine DL.pure (v:=ptr b1 4) rfl (Wn.no c52 rfl rfl rfl rfl) rfl rfl rfl (p_fieldAddr ty_f33_4 rfl rfl) ?_
        refine DL.quiet (v:=.int .i64 a0.typ) rfl (Wn.no c52 rfl rfl rfl rfl) rfl rfl rfl (FImm.quiet (i_loadBoxO (I:=M7) (hx7 _ _ hm_2) rfl ty_a29 rfl rfl) (fun w hc => hE22.imm hc)) ?_
        refine DL.pure (v:=.bool (decide (3 < a0.typ))) rfl (Wn.no c52 rfl rfl rfl rfl) rfl rfl rfl (p_gtr rfl rfl rfl) ?_
        refine DL.pure (v:=.bool (decide (3 < a0.typ))) rfl (Wn.some rfl rfl rfl rfl) rfl rfl rfl (p_pick_f c52 rfl rfl rfl) ?_
        obtain rfl:=Option.some.inj h54
        exact DL.weak J51 (Sub.cons rfl (Sub.cons rfl (Sub.cons rfl (Sub.cons rfl (Sub.cons rfl (Sub.cons rfl (Sub.cons rfl (Sub.cons rfl (Sub.cons rfl (Sub.cons rfl (Sub.nil _)))))))))))
     replace h44:=(if_neg (by simpa using hs45_0)).symm.trans h44
     by_cases hs45_1 : t42 = [116,97,107]
     ·
      subst hs45_1
      replace h44:=(if_pos (by decide)).symm.trans h44
      refine DL.keep (X:=Nat) (u:=fun b => ptr b 0) (H':=fun b => (some b,.stringIter ⟨#[116,97,107]⟩ 0) :: []) (fun _ p hp => List.mem_cons_of_mem _ hp) (i:=3) rfl (Wn.none rfl) rfl rfl rfl (f_rangeText (s:=⟨#[116,97,107]⟩) (by kernel_rfl : Tryz.prog.underlying 9 = some .string) rfl rfl) ?_
      intro b93
      refine DL.nil ?_
      refine TT.bk rfl ?_
      refine TT.lp rfl ?_
      refine TT.sq rfl ?_
      refine TT.rg [0,1] [kx,kp] rfl rfl ?_
      refine DL.chr (j:=0) (c:=116) (wd:=1) rfl rfl rfl rfl rfl rfl (by decide) (by kernel_rfl) rfl rfl ?_
      refine DL.pu 30 (.bool true) rfl (p_extract rfl rfl rfl) ?_
      refine DL.nil ?_
      refine TT.sq rfl ?_
      refine TT.ct rfl rfl rfl ?_
      refine TT.skip ?_
      refine TT.bk rfl ?_
      refine TT.sq rfl ?_
      refine TT.rg [0,1] [kp,kp] rfl rfl ?_
      refine DL.pu 31 (.int .i32 116) rfl (p_extract rfl rfl rfl) ?_
      refine DL.pu 5 (.int .i32 116) rfl (p_assign rfl rfl) ?_
      refine DL.nil ?_
      refine TT.sq rfl ?_
      refine TT.rg [0,1,2,3,4,5,6,7,8,9,10,11,12,13,14,15,16,17,18,19,20,21,22,23,24,25,26,27,28,29,30,31,32,33,34,35,36] [kp,kp,kp,kp,kq,kp,kp,kp,kq,kp,kp,kp,kp,kp,kp,kp,kp,kq,kp,kp,kp,kq,kp,kp,kp,kp,kp,kp,kp,kp,kp,kq,kp,kp,kp,kp,kp] rfl rfl ?_
      refine DL.mv 32 (.int .i32 116) rfl rfl rfl ?_
      refine DL.pu 33 (.bool true) rfl (show FPure _ _ _ (.bool ((116 : Int) == (116 : Int))) from p_eql rfl rfl rfl) ?_
      refine DL.mv 34 (.bool true) rfl rfl rfl ?_
      refine DL.pure (v:=ptr b1 4) rfl (Wn.some rfl rfl rfl rfl) rfl rfl rfl (p_fieldAddr ty_f33_4 rfl rfl) ?_
      refine DL.quiet (v:=.int .i64 a0.typ) rfl (Wn.some rfl rfl rfl rfl) rfl rfl rfl (FImm.quiet (i_loadBoxO (I:=M7) (hx7 _ _ hm_2) rfl ty_a29 rfl rfl) (fun w hc => hE22.imm hc)) ?_
      refine DL.pure (v:=.bool (decide (a0.typ < 1))) rfl (Wn.some rfl rfl rfl rfl) rfl rfl rfl (p_lss rfl rfl rfl) ?_
      refine DL.pure (v:=.bool (decide (a0.typ < 1))) rfl (Wn.some rfl rfl rfl rfl) rfl rfl rfl (p_move rfl rfl) ?_
      obtain ⟨q95,h96,h97⟩:=bind_some h44
      refine DL.cut [(1,ptr b1 0),(3,.int .i64 j3_35),(5,.int .i32 116),(28,ptr b93 0),(34,.bool true),(35,ptr b1 4),(36,.int .i64 a0.typ),(37,.bool (decide (a0.typ < 1))),(38,.bool (decide (a0.typ < 1))),(42,.bool q95)] [11,12,13,14,15,16,17,18,19,20,21,22,23,24,25,26,27,28,29,30,31,32,33,34,35,36] ?_ (fun J98 => ?_)
      ·
       refine DL.pu 43 (.bool q95) rfl (p_pick_true rfl rfl rfl) ?_
       refine DL.mv 44 (.bool q95) rfl rfl rfl ?_
       obtain ⟨q103,h104,h105⟩:=bind_some h97
       refine DL.cut [(1,ptr b1 0),(3,.int .i64 j3_35),(5,.int .i32 116),(28,ptr b93 0),(35,ptr b1 4),(36,.int .i64 a0.typ),(37,.bool (decide (a0.typ < 1))),(38,.bool (decide (a0.typ < 1))),(42,.bool q95),(57,.bool q103)] [26,27,28,29,30,31,32,33,34,35,36] ?_ (fun J106 => ?_)
       ·
        refine DL.mv 58 (.bool q103) rfl rfl rfl ?_
        obtain ⟨q111,h112,h113⟩:=bind_some h105
        refine DL.cut [(1,ptr b1 0),(3,.int .i64 j3_35),(28,ptr b93 0),(35,ptr b1 4),(36,.int .i64 a0.typ),(37,.bool (decide (a0.typ < 1))),(38,.bool (decide (a0.typ < 1))),(42,.bool q95),(68,.bool q111)] [] ?_ (fun J114 => ?_)
        ·
         refine DL.nil ?_
         by_cases c118 : q111 = true
         ·
          have h119:=ite_true c118 h113
          refine TT.ct rfl rfl c118 ?_
          refine TT.sq rfl ?_
          refine TT.rg [0] [kp] rfl rfl ?_
          refine DL.pu 2 (.bool false) rfl (p_assign rfl rfl) ?_
          refine DL.nil ?_
          obtain rfl:=Option.some.inj h119
          exact retnE (rs:=[.tmp 2]) (vs:=[.bool false]) hE22.base Tryz.func92 rfl rfl rfl (res_cons (ResV.tmp rfl) res_nil) rfl
         ·
          replace c118:=Bool.eq_false_iff.mpr c118
          have h120:=ite_false c118 h113
          refine TT.cf rfl rfl c118 ?_
          refine TT.skip ?_
          refine TT.inBlock ?_
          refine TT.inLoop ?_
          refine TT.sq rfl ?_
          refine TT.rg [0,1] [kx,kp] rfl rfl ?_
          refine DL.chr (j:=0) (c:=97) (wd:=1) rfl rfl rfl rfl rfl rfl (by decide) (by kernel_rfl) rfl rfl ?_
          refine DL.pu 30 (.bool true) rfl (p_extract rfl rfl rfl) ?_
          refine DL.nil ?_
          refine TT.sq rfl ?_
          refine TT.ct rfl rfl rfl ?_
          refine TT.skip ?_
          refine TT.bk rfl ?_
          refine TT.sq rfl ?_
          refine TT.rg [0,1] [kp,kp] rfl rfl ?_
          refine DL.pu 31 (.int .i32 97) rfl (p_extract rfl rfl rfl) ?_
          refine DL.pu 5 (.int .i32 97) rfl (p_assign rfl rfl) ?_
          refine DL.nil ?_
          refine TT.sq rfl ?_
          refine TT.rg [0,1,2,3,4,5,6,7,8,9,10,11,12,13,14,15,16,17,18,19,20,21,22,23,24,25,26,27,28,29,30,31,32,33,34,35,36] [kp,kp,kp,kp,kq,kp,kp,kp,kq,kp,kp,kp,kp,kp,kp,kp,kp,kq,kp,kp,kp,kq,kp,kp,kp,kp,kp,kp,kp,kp,kp,kq,kp,kp,kp,kp,kp] rfl rfl ?_
          refine DL.mv 32 (.int .i32 97) rfl rfl rfl ?_
          refine DL.pu 33 (.bool false) rfl (show FPure _ _ _ (.bool ((97 : Int) == (116 : Int))) from p_eql rfl rfl rfl) ?_
          refine DL.mv 34 (.bool false) rfl rfl rfl ?_
          refine DL.nt rfl rfl rfl rfl rfl rfl rfl ?_
          refine DL.nt rfl rfl rfl rfl rfl rfl rfl ?_
          refine DL.nt rfl rfl rfl rfl rfl rfl rfl ?_
          refine DL.nt rfl rfl rfl rfl rfl rfl rfl ?_
          refine DL.not rfl (Wn.undef rfl rfl rfl) rfl rfl ?_
          refine DL.not rfl (Wn.undef rfl rfl rfl) rfl rfl ?_
          refine DL.not rfl (Wn.undef rfl rfl rfl) rfl rfl ?_
          refine DL.nt rfl rfl rfl rfl rfl rfl rfl ?_
          refine DL.pu 43 (.bool false) rfl (p_pick_false rfl rfl rfl) ?_
          refine DL.mv 44 (.bool false) rfl rfl rfl ?_
          refine DL.pure (v:=.int .i32 97) rfl (Wn.some rfl rfl rfl rfl) rfl rfl rfl (p_move rfl rfl) ?_
          refine DL.pure (v:=.bool true) rfl (Wn.some rfl rfl rfl rfl) rfl rfl rfl (show FPure _ _ _ (.bool ((97 : Int) == (97 : Int))) from p_eql rfl rfl rfl) ?_
          refine DL.pure (v:=.bool true) rfl (Wn.some rfl rfl rfl rfl) rfl rfl rfl (p_move rfl rfl) ?_
          refine DL.pure (v:=ptr b1 5) rfl (Wn.some rfl rfl rfl rfl) rfl rfl rfl (p_fieldAddr ty_f33_5 rfl rfl) ?_
          refine DL.quiet (v:=.int .i64 a0.attr) rfl (Wn.some rfl rfl rfl rfl) rfl rfl rfl (FImm.quiet (i_loadBoxO (I:=M7) (hx7 _ _ hm_2) rfl ty_a30 rfl rfl) (fun w hc => hE22.imm hc)) ?_
          refine DL.pure (v:=.bool (decide (a0.attr < 0))) rfl (Wn.some rfl rfl rfl rfl) rfl rfl rfl (p_lss rfl rfl rfl) ?_
          refine DL.pure (v:=.bool (decide (a0.attr < 0))) rfl (Wn.some rfl rfl rfl rfl) rfl rfl rfl (p_move rfl rfl) ?_
          obtain ⟨q122,h123,h124⟩:=bind_some h120
          refine DL.cut [(1,ptr b1 0),(3,.int .i64 j3_35),(5,.int .i32 97),(28,ptr b93 0),(35,undef),(36,undef),(37,undef),(38,undef),(39,undef),(40,undef),(41,undef),(42,undef),(44,.bool false),(45,.int .i32 97),(46,.bool true),(47,.bool true),(48,ptr b1 5),(49,.int .i64 a0.attr),(50,.bool (decide (a0.attr < 0))),(51,.bool (decide (a0.attr < 0))),(55,.bool q122)] [24,25,26,27,28,29,30,31,32,33,34,35,36] ?_ (fun J125 => ?_)
          ·
           refine DL.pure (v:=.bool q122) rfl (Wn.some rfl rfl rfl rfl) rfl rfl rfl (p_pick_true rfl rfl rfl) ?_
           refine DL.pu 57 (.bool q122) rfl (p_pick_false rfl rfl rfl) ?_
           refine DL.mv 58 (.bool q122) rfl rfl rfl ?_
           obtain ⟨q130,h131,h132⟩:=bind_some h124
           refine DL.cut [(1,ptr b1 0),(3,.int .i64 j3_35),(28,ptr b93 0),(35,undef),(36,undef),(37,undef),(38,undef),(39,undef),(40,undef),(41,undef),(42,undef),(45,.int .i32 97),(46,.bool true),(47,.bool true),(48,ptr b1 5),(49,.int .i64 a0.attr),(50,.bool (decide (a0.attr < 0))),(51,.bool (decide (a0.attr < 0))),(55,.bool q122),(56,.bool q122),(68,.bool q130)] [] ?_ (fun J133 => ?_)
           ·
            refine DL.nil ?_
            by_cases c137 : q130 = true
            ·
             have h138:=ite_true c137 h132
             refine TT.ct rfl rfl c137 ?_
             refine TT.sq rfl ?_
             refine TT.rg [0] [kp] rfl rfl ?_
             refine DL.pu 2 (.bool false) rfl (p_assign rfl rfl) ?_
             refine DL.nil ?_
             obtain rfl:=Option.some.inj h138
             exact retnE (rs:=[.tmp 2]) (vs:=[.bool false]) hE22.base Tryz.func92 rfl rfl rfl (res_cons (ResV.tmp rfl) res_nil) rfl
            ·
             replace c137:=Bool.eq_false_iff.mpr c137
             have h139:=ite_false c137 h132
             refine TT.cf rfl rfl c137 ?_
             refine TT.skip ?_
             refine TT.inBlock ?_
             refine TT.inLoop ?_
             refine TT.sq rfl ?_
             refine TT.rg [0,1] [kx,kp] rfl rfl ?_
             refine DL.chr (j:=0) (c:=107) (wd:=1) rfl rfl rfl rfl rfl rfl (by decide) (by kernel_rfl) rfl rfl ?_
             refine DL.pu 30 (.bool true) rfl (p_extract rfl rfl rfl) ?_
             refine DL.nil ?_
             refine TT.sq rfl ?_
             refine TT.ct rfl rfl rfl ?_
             refine TT.skip ?_
             refine TT.bk rfl ?_
             refine TT.sq rfl ?_
             refine TT.rg [0,1] [kp,kp] rfl rfl ?_
             refine DL.pu 31 (.int .i32 107) rfl (p_extract rfl rfl rfl) ?_
             refine DL.pu 5 (.int .i32 107) rfl (p_assign rfl rfl) ?_
             refine DL.nil ?_
             refine TT.sq rfl ?_
             refine TT.rg [0,1,2,3,4,5,6,7,8,9,10,11,12,13,14,15,16,17,18,19,20,21,22,23,24,25,26,27,28,29,30,31,32,33,34,35,36] [kp,kp,kp,kp,kq,kp,kp,kp,kq,kp,kp,kp,kp,kp,kp,kp,kp,kq,kp,kp,kp,kq,kp,kp,kp,kp,kp,kp,kp,kp,kp,kq,kp,kp,kp,kp,kp] rfl rfl ?_
             refine DL.mv 32 (.int .i32 107) rfl rfl rfl ?_
             refine DL.pu 33 (.bool false) rfl (show FPure _ _ _ (.bool ((107 : Int) == (116 : Int))) from p_eql rfl rfl rfl) ?_
             refine DL.mv 34 (.bool false) rfl rfl rfl ?_
             refine DL.nt rfl rfl rfl rfl rfl rfl rfl ?_
             refine DL.nt rfl rfl rfl rfl rfl rfl rfl ?_
             refine DL.nt rfl rfl rfl rfl rfl rfl rfl ?_
             refine DL.nt rfl rfl rfl rfl rfl rfl rfl ?_
             refine DL.not rfl (Wn.undef rfl rfl rfl) rfl rfl ?_
             refine DL.not rfl (Wn.undef rfl rfl rfl) rfl rfl ?_
             refine DL.not rfl (Wn.undef rfl rfl rfl) rfl rfl ?_
             refine DL.nt rfl rfl rfl rfl rfl rfl rfl ?_
             refine DL.pu 43 (.bool false) rfl (p_pick_false rfl rfl rfl) ?_
             refine DL.mv 44 (.bool false) rfl rfl rfl ?_
             refine DL.pure (v:=.int .i32 107) rfl (Wn.some rfl rfl rfl rfl) rfl rfl rfl (p_move rfl rfl) ?_
             refine DL.pure (v:=.bool false) rfl (Wn.some rfl rfl rfl rfl) rfl rfl rfl (show FPure _ _ _ (.bool ((107 : Int) == (97 : Int))) from p_eql rfl rfl rfl) ?_
             refine DL.pure (v:=.bool false) rfl (Wn.some rfl rfl rfl rfl) rfl rfl rfl (p_move rfl rfl) ?_
             refine DL.nt rfl rfl rfl rfl rfl rfl rfl ?_
             refine DL.nt rfl rfl rfl rfl rfl rfl rfl ?_
             refine DL.nt rfl rfl rfl rfl rfl rfl rfl ?_
             refine DL.nt rfl rfl rfl rfl rfl rfl rfl ?_
             refine DL.not rfl (Wn.undef rfl rfl rfl) rfl rfl ?_
             refine DL.not rfl (Wn.undef rfl rfl rfl) rfl rfl ?_
             refine DL.not rfl (Wn.undef rfl rfl rfl) rfl rfl ?_
             refine DL.nt rfl rfl rfl rfl rfl rfl rfl ?_
             refine DL.pure (v:=.bool false) rfl (Wn.some rfl rfl rfl rfl) rfl rfl rfl (p_pick_false rfl rfl rfl) ?_
             refine DL.pu 57 (.bool false) rfl (p_pick_false rfl rfl rfl) ?_
             refine DL.mv 58 (.bool false) rfl rfl rfl ?_
             refine DL.pure (v:=.int .i32 107) rfl (Wn.some rfl rfl rfl rfl) rfl rfl rfl (p_move rfl rfl) ?_
             refine DL.pure (v:=.bool false) rfl (Wn.some rfl rfl rfl rfl) rfl rfl rfl (show FPure _ _ _ (.bool ((107 : Int) == (100 : Int))) from p_eql rfl rfl rfl) ?_
             refine DL.pure (v:=.bool false) rfl (Wn.some rfl rfl rfl rfl) rfl rfl rfl (p_move rfl rfl) ?_
             refine DL.nt rfl rfl rfl rfl rfl rfl rfl ?_
             refine DL.nt rfl rfl rfl rfl rfl rfl rfl ?_
             refine DL.nt rfl rfl rfl rfl rfl rfl rfl ?_
             refine DL.nt rfl rfl rfl rfl rfl rfl rfl ?_
             refine DL.nt rfl rfl rfl rfl rfl rfl rfl ?_
             refine DL.pure (v:=.bool false) rfl (Wn.some rfl rfl rfl rfl) rfl rfl rfl (p_pick_false rfl rfl rfl) ?_
             refine DL.pu 68 (.bool false) rfl (p_pick_false rfl rfl rfl) ?_
             refine DL.nil ?_
             refine TT.cf rfl rfl rfl ?_
             refine TT.skip ?_
             refine TT.inBlock ?_
             refine TT.inLoop ?_
             refine TT.sq rfl ?_
             refine TT.rg [0,1] [kx,kp] rfl rfl ?_
             refine DL.chrE (j:=0) rfl rfl rfl rfl rfl rfl (by decide) rfl rfl ?_
             refine DL.pu 30 (.bool false) rfl (p_extract rfl rfl rfl) ?_
             refine DL.nil ?_
             refine TT.sq rfl ?_
             refine TT.cf rfl rfl rfl ?_
             refine TT.exit rfl ?_
             refine TT.sq rfl ?_
             refine TT.rg [0] [kp] rfl rfl ?_
             refine DL.pu 2 (.bool true) rfl (p_assign rfl rfl) ?_
             refine DL.nil ?_
             obtain rfl:=Option.some.inj h139
             exact retnE (rs:=[.tmp 2]) (vs:=[.bool true]) hE22.base Tryz.func92 rfl rfl rfl (res_cons (ResV.tmp rfl) res_nil) rfl
           ·
            by_cases c134 : q122 = true
            ·
             have h135:=ite_true c134 h131
             refine DL.not rfl (Wn.yes c134 rfl rfl rfl rfl) rfl rfl ?_
             refine DL.not rfl (Wn.yes c134 rfl rfl rfl rfl) rfl rfl ?_
             refine DL.not rfl (Wn.yes c134 rfl rfl rfl rfl) rfl rfl ?_
             refine DL.not rfl (Wn.undef rfl rfl rfl) rfl rfl ?_
             refine DL.not rfl (Wn.undef rfl rfl rfl) rfl rfl ?_
             refine DL.not rfl (Wn.undef rfl rfl rfl) rfl rfl ?_
             refine DL.not rfl (Wn.undef rfl rfl rfl) rfl rfl ?_
             refine DL.not rfl (Wn.undef rfl rfl rfl) rfl rfl ?_
             refine DL.not rfl (Wn.yes c134 rfl rfl rfl rfl) rfl rfl ?_
             refine DL.pu 68 (.bool true) rfl (p_pick_t c134 rfl rfl rfl) ?_
             obtain rfl:=Option.some.inj h135
             exact DL.weak J133 (Sub.cons rfl (Sub.cons rfl (Sub.cons rfl (Sub.cons rfl (Sub.cons rfl (Sub.cons rfl (Sub.cons rfl (Sub.cons rfl (Sub.cons rfl (Sub.cons rfl (Sub.cons rfl (Sub.cons rfl (Sub.cons rfl (Sub.cons rfl (Sub.cons rfl (Sub.cons rfl (Sub.cons rfl (Sub.cons rfl (Sub.cons rfl (Sub.cons rfl (Sub.cons rfl (Sub.nil _))))))))))))))))))))))
            ·
             replace c134:=Bool.eq_false_iff.mpr c134
             have h136:=ite_false c134 h131
             refine DL.pure (v:=.int .i32 97) rfl (Wn.no c134 rfl rfl rfl rfl) rfl rfl rfl (p_move rfl rfl) ?_
             refine DL.pure (v:=.bool false) rfl (Wn.no c134 rfl rfl rfl rfl) rfl rfl rfl (show FPure _ _ _ (.bool ((97 : Int) == (100 : Int))) from p_eql rfl rfl rfl) ?_
             refine DL.pure (v:=.bool false) rfl (Wn.no c134 rfl rfl rfl rfl) rfl rfl rfl (p_move rfl rfl) ?_
             refine DL.nt rfl rfl rfl rfl rfl rfl rfl ?_
             refine DL.nt rfl rfl rfl rfl rfl rfl rfl ?_
             refine DL.nt rfl rfl rfl rfl rfl rfl rfl ?_
             refine DL.nt rfl rfl rfl rfl rfl rfl rfl ?_
             refine DL.nt rfl rfl rfl rfl rfl rfl rfl ?_
             refine DL.pure (v:=.bool false) rfl (Wn.no c134 rfl rfl rfl rfl) rfl rfl rfl (p_pick_false rfl rfl rfl) ?_
             refine DL.pu 68 (.bool false) rfl (p_pick_f c134 rfl rfl rfl) ?_
             obtain rfl:=Option.some.inj h136
             exact DL.weak J133 (Sub.cons rfl (Sub.cons rfl (Sub.cons rfl (Sub.cons rfl (Sub.cons rfl (Sub.cons rfl (Sub.cons rfl (Sub.cons rfl (Sub.cons rfl (Sub.cons rfl (Sub.cons rfl (Sub.cons rfl (Sub.cons rfl (Sub.cons rfl (Sub.cons rfl (Sub.cons rfl (Sub.cons rfl (Sub.cons rfl (Sub.cons rfl (Sub.cons rfl (Sub.cons rfl (Sub.nil _))))))))))))))))))))))
          ·
           by_cases c126 : (decide (a0.attr < 0)) = true
           ·
            have h127:=ite_true c126 h123
            refine DL.not rfl (Wn.yes c126 rfl rfl rfl rfl) rfl rfl ?_
            refine DL.not rfl (Wn.yes c126 rfl rfl rfl rfl) rfl rfl ?_
            refine DL.not rfl (Wn.yes c126 rfl rfl rfl rfl) rfl rfl ?_
            refine DL.pure (v:=.bool true) rfl (Wn.some rfl rfl rfl rfl) rfl rfl rfl (p_pick_t c126 rfl rfl rfl) ?_
            obtain rfl:=Option.some.inj h127
            exact DL.weak J125 (Sub.cons rfl (Sub.cons rfl (Sub.cons rfl (Sub.cons rfl (Sub.cons rfl (Sub.cons rfl (Sub.cons rfl (Sub.cons rfl (Sub.cons rfl (Sub.cons rfl (Sub.cons rfl (Sub.cons rfl (Sub.cons rfl (Sub.cons rfl (Sub.cons rfl (Sub.cons rfl (Sub.cons rfl (Sub.cons rfl (Sub.cons rfl (Sub.cons rfl (Sub.cons rfl (Sub.nil _))))))))))))))))))))))
           ·
            replace c126:=Bool.eq_false_iff.mpr c126
            have h128:=ite_false c126 h123
            refine DL.pure (v:=ptr b1 5) rfl (Wn.no c126 rfl rfl rfl rfl) rfl rfl rfl (p_fieldAddr ty_f33_5 rfl rfl) ?_
            refine DL.quiet (v:=.int .i64 a0.attr) rfl (Wn.no c126 rfl rfl rfl rfl) rfl rfl rfl (FImm.quiet (i_loadBoxO (I:=M7) (hx7 _ _ hm_2) rfl ty_a30 rfl rfl) (fun w hc => hE22.imm hc)) ?_
            refine DL.pure (v:=.bool (decide (63 < a0.attr))) rfl (Wn.no c126 rfl rfl rfl rfl) rfl rfl rfl (p_gtr rfl rfl rfl) ?_
            refine DL.pure (v:=.bool (decide (63 < a0.attr))) rfl (Wn.some rfl rfl rfl rfl) rfl rfl rfl (p_pick_f c126 rfl rfl rfl) ?_
            obtain rfl:=Option.some.inj h128
            exact DL.weak J125 (Sub.cons rfl (Sub.cons rfl (Sub.cons rfl (Sub.cons rfl (Sub.cons rfl (Sub.cons rfl (Sub.cons rfl (Sub.cons rfl (Sub.cons rfl (Sub.cons rfl (Sub.cons rfl (Sub.cons rfl (Sub.cons rfl (Sub.cons rfl (Sub.cons rfl (Sub.cons rfl (Sub.cons rfl (Sub.cons rfl (Sub.cons rfl (Sub.cons rfl (Sub.cons rfl (Sub.nil _))))))))))))))))))))))
        ·
         by_cases c115 : q103 = true
         ·
          have h116:=ite_true c115 h112
          refine DL.not rfl (Wn.yes c115 rfl rfl rfl rfl) rfl rfl ?_
          refine DL.not rfl (Wn.yes c115 rfl rfl rfl rfl) rfl rfl ?_
          refine DL.not rfl (Wn.yes c115 rfl rfl rfl rfl) rfl rfl ?_
          refine DL.not rfl (Wn.undef rfl rfl rfl) rfl rfl ?_
          refine DL.not rfl (Wn.undef rfl rfl rfl) rfl rfl ?_
          refine DL.not rfl (Wn.undef rfl rfl rfl) rfl rfl ?_
          refine DL.not rfl (Wn.undef rfl rfl rfl) rfl rfl ?_
          refine DL.not rfl (Wn.undef rfl rfl rfl) rfl rfl ?_
          refine DL.not rfl (Wn.yes c115 rfl rfl rfl rfl) rfl rfl ?_
          refine DL.pu 68 (.bool true) rfl (p_pick_t c115 rfl rfl rfl) ?_
          obtain rfl:=Option.some.inj h116
          exact DL.weak J114 (Sub.cons rfl (Sub.cons rfl (Sub.cons rfl (Sub.cons rfl (Sub.cons rfl (Sub.cons rfl (Sub.cons rfl (Sub.cons rfl (Sub.cons rfl (Sub.nil _))))))))))
         ·
          replace c115:=Bool.eq_false_iff.mpr c115
          have h117:=ite_false c115 h112
          refine DL.pure (v:=.int .i32 116) rfl (Wn.no c115 rfl rfl rfl rfl) rfl rfl rfl (p_move rfl rfl) ?_
          refine DL.pure (v:=.bool false) rfl (Wn.no c115 rfl rfl rfl rfl) rfl rfl rfl (show FPure _ _ _ (.bool ((116 : Int) == (100 : Int))) from p_eql rfl rfl rfl) ?_
          refine DL.pure (v:=.bool false) rfl (Wn.no c115 rfl rfl rfl rfl) rfl rfl rfl (p_move rfl rfl) ?_
          refine DL.nt rfl rfl rfl rfl rfl rfl rfl ?_
          refine DL.nt rfl rfl rfl rfl rfl rfl rfl ?_
          refine DL.nt rfl rfl rfl rfl rfl rfl rfl ?_
          refine DL.nt rfl rfl rfl rfl rfl rfl rfl ?_
          refine DL.nt rfl rfl rfl rfl rfl rfl rfl ?_
          refine DL.pure (v:=.bool false) rfl (Wn.no c115 rfl rfl rfl rfl) rfl rfl rfl (p_pick_false rfl rfl rfl) ?_
          refine DL.pu 68 (.bool false) rfl (p_pick_f c115 rfl rfl rfl) ?_
          obtain rfl:=Option.some.inj h117
          exact DL.weak J114 (Sub.cons rfl (Sub.cons rfl (Sub.cons rfl (Sub.cons rfl (Sub.cons rfl (Sub.cons rfl (Sub.cons rfl (Sub.cons rfl (Sub.cons rfl (Sub.nil _))))))))))
       ·
        by_cases c107 : q95 = true
        ·
         have h108:=ite_true c107 h104
         refine DL.not rfl (Wn.yes c107 rfl rfl rfl rfl) rfl rfl ?_
         refine DL.not rfl (Wn.yes c107 rfl rfl rfl rfl) rfl rfl ?_
         refine DL.not rfl (Wn.yes c107 rfl rfl rfl rfl) rfl rfl ?_
         refine DL.not rfl (Wn.undef rfl rfl rfl) rfl rfl ?_
         refine DL.not rfl (Wn.undef rfl rfl rfl) rfl rfl ?_
         refine DL.not rfl (Wn.undef rfl rfl rfl) rfl rfl ?_
         refine DL.not rfl (Wn.undef rfl rfl rfl) rfl rfl ?_
         refine DL.not rfl (Wn.undef rfl rfl rfl) rfl rfl ?_
         refine DL.not rfl (Wn.undef rfl rfl rfl) rfl rfl ?_
         refine DL.not rfl (Wn.undef rfl rfl rfl) rfl rfl ?_
         refine DL.not rfl (Wn.undef rfl rfl rfl) rfl rfl ?_
         refine DL.not rfl (Wn.yes c107 rfl rfl rfl rfl) rfl rfl ?_
         refine DL.pu 57 (.bool true) rfl (p_pick_t c107 rfl rfl rfl) ?_
         obtain rfl:=Option.some.inj h108
         exact DL.weak J106 (Sub.cons rfl (Sub.cons rfl (Sub.cons rfl (Sub.cons rfl (Sub.cons rfl (Sub.cons rfl (Sub.cons rfl (Sub.cons rfl (Sub.cons rfl (Sub.cons rfl (Sub.nil _)))))))))))
        ·
         replace c107:=Bool.eq_false_iff.mpr c107
         have h109:=ite_false c107 h104
         refine DL.pure (v:=.int .i32 116) rfl (Wn.no c107 rfl rfl rfl rfl) rfl rfl rfl (p_move rfl rfl) ?_
         refine DL.pure (v:=.bool false) rfl (Wn.no c107 rfl rfl rfl rfl) rfl rfl rfl (show FPure _ _ _ (.bool ((116 : Int) == (97 : Int))) from p_eql rfl rfl rfl) ?_
         refine DL.pure (v:=.bool false) rfl (Wn.no c107 rfl rfl rfl rfl) rfl rfl rfl (p_move rfl rfl) ?_
         refine DL.nt rfl rfl rfl rfl rfl rfl rfl ?_
         refine DL.nt rfl rfl rfl rfl rfl rfl rfl ?_
         refine DL.nt rfl rfl rfl rfl rfl rfl rfl ?_
         refine DL.nt rfl rfl rfl rfl rfl rfl rfl ?_
         refine DL.not rfl (Wn.undef rfl rfl rfl) rfl rfl ?_
         refine DL.not rfl (Wn.undef rfl rfl rfl) rfl rfl ?_
         refine DL.not rfl (Wn.undef rfl rfl rfl) rfl rfl ?_
         refine DL.nt rfl rfl rfl rfl rfl rfl rfl ?_
         refine DL.pure (v:=.bool false) rfl (Wn.no c107 rfl rfl rfl rfl) rfl rfl rfl (p_pick_false rfl rfl rfl) ?_
         refine DL.pu 57 (.bool false) rfl (p_pick_f c107 rfl rfl rfl) ?_
         obtain rfl:=Option.some.inj h109
         exact DL.weak J106 (Sub.cons rfl (Sub.cons rfl (Sub.cons rfl (Sub.cons rfl (Sub.cons rfl (Sub.cons rfl (Sub.cons rfl (Sub.cons rfl (Sub.cons rfl (Sub.cons rfl (Sub.nil _)))))))))))
      ·
       by_cases c99 : (decide (a0.typ < 1)) = true
       ·
        have h100:=ite_true c99 h96
        refine DL.not rfl (Wn.yes c99 rfl rfl rfl rfl) rfl rfl ?_
        refine DL.not rfl (Wn.yes c99 rfl rfl rfl rfl) rfl rfl ?_
        refine DL.not rfl (Wn.yes c99 rfl rfl rfl rfl) rfl rfl ?_
        refine DL.pure (v:=.bool true) rfl (Wn.some rfl rfl rfl rfl) rfl rfl rfl (p_pick_t c99 rfl rfl rfl) ?_
        obtain rfl:=Option.some.inj h100
        exact DL.weak J98 (Sub.cons rfl (Sub.cons rfl (Sub.cons rfl (Sub.cons rfl (Sub.cons rfl (Sub.cons rfl (Sub.cons rfl (Sub.cons rfl (Sub.cons rfl (Sub.cons rfl (Sub.nil _)))))))))))
       ·
        replace c99:=Bool.eq_false_iff.mpr c99
        have h101:=ite_false c99 h96
        refine DL.pure (v:=ptr b1 4) rfl (Wn.no c99 rfl rfl rfl rfl) rfl rfl rfl (p_fieldAddr ty_f33_4 rfl rfl) ?_
        refine DL.quiet (v:=.int .i64 a0.typ) rfl (Wn.no c99 rfl rfl rfl rfl) rfl rfl rfl (FImm.quiet (i_loadBoxO (I:=M7) (hx7 _ _ hm_2) rfl ty_a29 rfl rfl) (fun w hc => hE22.imm hc)) ?_
        refine DL.pure (v:=.bool (decide (3 < a0.typ))) rfl (Wn.no c99 rfl rfl rfl rfl) rfl rfl rfl (p_gtr rfl rfl rfl) ?_
        refine DL.pure (v:=.bool (decide (3 < a0.typ))) rfl (Wn.some rfl rfl rfl rfl) rfl rfl rfl (p_pick_f c99 rfl rfl rfl) ?_
        obtain rfl:=Option.some.inj h101
        exact DL.weak J98 (Sub.cons rfl (Sub.cons rfl (Sub.cons rfl (Sub.cons rfl (Sub.cons rfl (Sub.cons rfl (Sub.cons rfl (Sub.cons rfl (Sub.cons rfl (Sub.cons rfl (Sub.nil _)))))))))))
     replace h44:=(if_neg (by simpa using hs45_1)).symm.trans h44
     by_cases hs45_2 : t42 = [104]
     ·
      subst hs45_2
      replace h44:=(if_pos (by decide)).symm.trans h44
      refine DL.keep (X:=Nat) (u:=fun b => ptr b 0) (H':=fun b => (some b,.stringIter ⟨#[104]⟩ 0) :: []) (fun _ p hp => List.mem_cons_of_mem _ hp) (i:=3) rfl (Wn.none rfl) rfl rfl rfl (f_rangeText (s:=⟨#[104]⟩) (by kernel_rfl : Tryz.prog.underlying 9 = some .string) rfl rfl) ?_
      intro b140
      refine DL.nil ?_
      refine TT.bk rfl ?_
      refine TT.lp rfl ?_
      refine TT.sq rfl ?_
      refine TT.rg [0,1] [kx,kp] rfl rfl ?_
      refine DL.chr (j:=0) (c:=104) (wd:=1) rfl rfl rfl rfl rfl rfl (by decide) (by kernel_rfl) rfl rfl ?_
      refine DL.pu 30 (.bool true) rfl (p_extract rfl rfl rfl) ?_
      refine DL.nil ?_
      refine TT.sq rfl ?_
      refine TT.ct rfl rfl rfl ?_
      refine TT.skip ?_
      refine TT.bk rfl ?_
      refine TT.sq rfl ?_
      refine TT.rg [0,1] [kp,kp] rfl rfl ?_
      refine DL.pu 31 (.int .i32 104) rfl (p_extract rfl rfl rfl) ?_
      refine DL.pu 5 (.int .i32 104) rfl (p_assign rfl rfl) ?_
      refine DL.nil ?_
      refine TT.sq rfl ?_
      refine TT.rg [0,1,2,3,4,5,6,7,8,9,10,11,12,13,14,15,16,17,18,19,20,21,22,23,24,25,26,27,28,29,30,31,32,33,34,35,36] [kp,kp,kp,kp,kq,kp,kp,kp,kq,kp,kp,kp,kp,kp,kp,kp,kp,kq,kp,kp,kp,kq,kp,kp,kp,kp,kp,kp,kp,kp,kp,kq,kp,kp,kp,kp,kp] rfl rfl ?_
      refine DL.mv 32 (.int .i32 104) rfl rfl rfl ?_
      refine DL.pu 33 (.bool false) rfl (show FPure _ _ _ (.bool ((104 : Int) == (116 : Int))) from p_eql rfl rfl rfl) ?_
      refine DL.mv 34 (.bool false) rfl rfl rfl ?_
      refine DL.nt rfl rfl rfl rfl rfl rfl rfl ?_
      refine DL.nt rfl rfl rfl rfl rfl rfl rfl ?_
      refine DL.nt rfl rfl rfl rfl rfl rfl rfl ?_
      refine DL.nt rfl rfl rfl rfl rfl rfl rfl ?_
      refine DL.not rfl (Wn.undef rfl rfl rfl) rfl rfl ?_
      refine DL.not rfl (Wn.undef rfl rfl rfl) rfl rfl ?_
      refine DL.not rfl (Wn.undef rfl rfl rfl) rfl rfl ?_
      refine DL.nt rfl rfl rfl rfl rfl rfl rfl ?_
      refine DL.pu 43 (.bool false) rfl (p_pick_false rfl rfl rfl) ?_
      refine DL.mv 44 (.bool false) rfl rfl rfl ?_
      refine DL.pure (v:=.int .i32 104) rfl (Wn.some rfl rfl rfl rfl) rfl rfl rfl (p_move rfl rfl) ?_
      refine DL.pure (v:=.bool false) rfl (Wn.some rfl rfl rfl rfl) rfl rfl rfl (show FPure _ _ _ (.bool ((104 : Int) == (97 : Int))) from p_eql rfl rfl rfl) ?_
      refine DL.pure (v:=.bool false) rfl (Wn.some rfl rfl rfl rfl) rfl rfl rfl (p_move rfl rfl) ?_
      refine DL.nt rfl rfl rfl rfl rfl rfl rfl ?_
      refine DL.nt rfl rfl rfl rfl rfl rfl rfl ?_
      refine DL.nt rfl rfl rfl rfl rfl rfl rfl ?_
      refine DL.nt rfl rfl rfl rfl rfl rfl rfl ?_
      refine DL.not rfl (Wn.undef rfl rfl rfl) rfl rfl ?_
      refine DL.not rfl (Wn.undef rfl rfl rfl) rfl rfl ?_
      refine DL.not rfl (Wn.undef rfl rfl rfl) rfl rfl ?_
      refine DL.nt rfl rfl rfl rfl rfl rfl rfl ?_
      refine DL.pure (v:=.bool false) rfl (Wn.some rfl rfl rfl rfl) rfl rfl rfl (p_pick_false rfl rfl rfl) ?_
      refine DL.pu 57 (.bool false) rfl (p_pick_false rfl rfl rfl) ?_
      refine DL.mv 58 (.bool false) rfl rfl rfl ?_
      refine DL.pure (v:=.int .i32 104) rfl (Wn.some rfl rfl rfl rfl) rfl rfl rfl (p_move rfl rfl) ?_
      refine DL.pure (v:=.bool false) rfl (Wn.some rfl rfl rfl rfl) rfl rfl rfl (show FPure _ _ _ (.bool ((104 : Int) == (100 : Int))) from p_eql rfl rfl rfl) ?_
      refine DL.pure (v:=.bool false) rfl (Wn.some rfl rfl rfl rfl) rfl rfl rfl (p_move rfl rfl) ?_
      refine DL.nt rfl rfl rfl rfl rfl rfl rfl ?_
      refine DL.nt rfl rfl rfl rfl rfl rfl rfl ?_
      refine DL.nt rfl rfl rfl rfl rfl rfl rfl ?_
      refine DL.nt rfl rfl rfl rfl rfl rfl rfl ?_
      refine DL.nt rfl rfl rfl rfl rfl rfl rfl ?_
      refine DL.pure (v:=.bool false) rfl (Wn.some rfl rfl rfl rfl) rfl rfl rfl (p_pick_false rfl rfl rfl) ?_
      refine DL.pu 68 (.bool false) rfl (p_pick_false rfl rfl rfl) ?_
      refine DL.nil ?_
      refine TT.cf rfl rfl rfl ?_
      refine TT.skip ?_
      refine TT.inBlock ?_
      refine TT.inLoop ?_
      refine TT.sq rfl ?_
      refine TT.rg [0,1] [kx,kp] rfl rfl ?_
      refine DL.chrE (j:=0) rfl rfl rfl rfl rfl rfl (by decide) rfl rfl ?_
      refine DL.pu 30 (.bool false) rfl (p_extract rfl rfl rfl) ?_
      refine DL.nil ?_
      refine TT.sq rfl ?_
      refine TT.cf rfl rfl rfl ?_
      refine TT.exit rfl ?_
      refine TT.sq rfl ?_
      refine TT.rg [0] [kp] rfl rfl ?_
      refine DL.pu 2 (.bool true) rfl (p_assign rfl rfl) ?_
      refine DL.nil ?_
      obtain rfl:=Option.some.inj h44
      exact retnE (rs:=[.tmp 2]) (vs:=[.bool true]) hE22.base Tryz.func92 rfl rfl rfl (res_cons (ResV.tmp rfl) res_nil) rfl
     replace h44:=(if_neg (by simpa using hs45_2)).symm.trans h44
     by_cases hs45_3 : t42 = [104,100]
     ·
      subst hs45_3
      replace h44:=(if_pos (by decide)).symm.trans h44
      refine DL.keep (X:=Nat) (u:=fun b => ptr b 0) (H':=fun b => (some b,.stringIter ⟨#[104,100]⟩ 0) :: []) (fun _ p hp => List.mem_cons_of_mem _ hp) (i:=3) rfl (Wn.none rfl) rfl rfl rfl (f_rangeText (s:=⟨#[104,100]⟩) (by kernel_rfl : Tryz.prog.underlying 9 = some .string) rfl rfl) ?_
      intro b141
      refine DL.nil ?_
      refine TT.bk rfl ?_
      refine TT.lp rfl ?_
      refine TT.sq rfl ?_
      refine TT.rg [0,1] [kx,kp] rfl rfl ?_
      refine DL.chr (j:=0) (c:=104) (wd:=1) rfl rfl rfl rfl rfl rfl (by decide) (by kernel_rfl) rfl rfl ?_
      refine DL.pu 30 (.bool true) rfl (p_extract rfl rfl rfl) ?_
      refine DL.nil ?_
      refine TT.sq rfl ?_
      refine TT.ct rfl rfl rfl ?_
      refine TT.skip ?_
      refine TT.bk rfl ?_
      refine TT.sq rfl ?_
      refine TT.rg [0,1] [kp,kp] rfl rfl ?_
      refine DL.pu 31 (.int .i32 104) rfl (p_extract rfl rfl rfl) ?_
      refine DL.pu 5 (.int .i32 104) rfl (p_assign rfl rfl) ?_
      refine DL.nil ?_
      refine TT.sq rfl ?_
      refine TT.rg [0,1,2,3,4,5,6,7,8,9,10,11,12,13,14,15,16,17,18,19,20,21,22,23,24,25,26,27,28,29,30,31,32,33,34,35,36] [kp,kp,kp,kp,kq,kp,kp,kp,kq,kp,kp,kp,kp,kp,kp,kp,kp,kq,kp,kp,kp,kq,kp,kp,kp,kp,kp,kp,kp,kp,kp,kq,kp,kp,kp,kp,kp] rfl rfl ?_
      refine DL.mv 32 (.int .i32 104) rfl rfl rfl ?_
      refine DL.pu 33 (.bool false) rfl (show FPure _ _ _ (.bool ((104 : Int) == (116 : Int))) from p_eql rfl rfl rfl) ?_
      refine DL.mv 34 (.bool false) rfl rfl rfl ?_
      refine DL.nt rfl rfl rfl rfl rfl rfl rfl ?_
      refine DL.nt rfl rfl rfl rfl rfl rfl rfl ?_
      refine DL.nt rfl rfl rfl rfl rfl rfl rfl ?_
      refine DL.nt rfl rfl rfl rfl rfl rfl rfl ?_
      refine DL.not rfl (Wn.undef rfl rfl rfl) rfl rfl ?_
      refine DL.not rfl (Wn.undef rfl rfl rfl) rfl rfl ?_
      refine DL.not rfl (Wn.undef rfl rfl rfl) rfl rfl ?_
      refine DL.nt rfl rfl rfl rfl rfl rfl rfl ?_
      refine DL.pu 43 (.bool false) rfl (p_pick_false rfl rfl rfl) ?_
      refine DL.mv 44 (.bool false) rfl rfl rfl ?_
      refine DL.pure (v:=.int .i32 104) rfl (Wn.some rfl rfl rfl rfl) rfl rfl rfl (p_move rfl rfl) ?_
      refine DL.pure (v:=.bool false) rfl (Wn.some rfl rfl rfl rfl) rfl rfl rfl (show FPure _ _ _ (.bool ((104 : Int) == (97 : Int))) from p_eql rfl rfl rfl) ?_
      refine DL.pure (v:=.bool false) rfl (Wn.some rfl rfl rfl rfl) rfl rfl rfl (p_move rfl rfl) ?_
      refine DL.nt rfl rfl rfl rfl rfl rfl rfl ?_
      refine DL.nt rfl rfl rfl rfl rfl rfl rfl ?_
      refine DL.nt rfl rfl rfl rfl rfl rfl rfl ?_
      refine DL.nt rfl rfl rfl rfl rfl rfl rfl ?_
      refine DL.not rfl (Wn.undef rfl rfl rfl) rfl rfl ?_
      refine DL.not rfl (Wn.undef rfl rfl rfl) rfl rfl ?_
      refine DL.not rfl (Wn.undef rfl rfl rfl) rfl rfl ?_
      refine DL.nt rfl rfl rfl rfl rfl rfl rfl ?_
      refine DL.pure (v:=.bool false) rfl (Wn.some rfl rfl rfl rfl) rfl rfl rfl (p_pick_false rfl rfl rfl) ?_
      refine DL.pu 57 (.bool false) rfl (p_pick_false rfl rfl rfl) ?_
      refine DL.mv 58 (.bool false) rfl rfl rfl ?_
      refine DL.pure (v:=.int .i32 104) rfl (Wn.some rfl rfl rfl rfl) rfl rfl rfl (p_move rfl rfl) ?_
      refine DL.pure (v:=.bool false) rfl (Wn.some rfl rfl rfl rfl) rfl rfl rfl (show FPure _ _ _ (.bool ((104 : Int) == (100 : Int))) from p_eql rfl rfl rfl) ?_
      refine DL.pure (v:=.bool false) rfl (Wn.some rfl rfl rfl rfl) rfl rfl rfl (p_move rfl rfl) ?_
      refine DL.nt rfl rfl rfl rfl rfl rfl rfl ?_
      refine DL.nt rfl rfl rfl rfl rfl rfl rfl ?_
      refine DL.nt rfl rfl rfl rfl rfl rfl rfl ?_
      refine DL.nt rfl rfl rfl rfl rfl rfl rfl ?_
      refine DL.nt rfl rfl rfl rfl rfl rfl rfl ?_
      refine DL.pure (v:=.bool false) rfl (Wn.some rfl rfl rfl rfl) rfl rfl rfl (p_pick_false rfl rfl rfl) ?_
      refine DL.pu 68 (.bool false) rfl (p_pick_false rfl rfl rfl) ?_
      refine DL.nil ?_
      refine TT.cf rfl rfl rfl ?_
      refine TT.skip ?_
      refine TT.inBlock ?_
      refine TT.inLoop ?_
      refine TT.sq rfl ?_
      refine TT.rg [0,1] [kx,kp] rfl rfl ?_
      refine DL.chr (j:=0) (c:=100) (wd:=1) rfl rfl rfl rfl rfl rfl (by decide) (by kernel_rfl) rfl rfl ?_
      refine DL.pu 30 (.bool true) rfl (p_extract rfl rfl rfl) ?_
      refine DL.nil ?_
      refine TT.sq rfl ?_
      refine TT.ct rfl rfl rfl ?_
      refine TT.skip ?_
      refine TT.bk rfl ?_
      refine TT.sq rfl ?_
      refine TT.rg [0,1] [kp,kp] rfl rfl ?_
      refine DL.pu 31 (.int .i32 100) rfl (p_extract rfl rfl rfl) ?_
      refine DL.pu 5 (.int .i32 100) rfl (p_assign rfl rfl) ?_
      refine DL.nil ?_
      refine TT.sq rfl ?_
      refine TT.rg [0,1,2,3,4,5,6,7,8,9,10,11,12,13,14,15,16,17,18,19,20,21,22,23,24,25,26,27,28,29,30,31,32,33,34,35,36] [kp,kp,kp,kp,kq,kp,kp,kp,kq,kp,kp,kp,kp,kp,kp,kp,kp,kq,kp,kp,kp,kq,kp,kp,kp,kp,kp,kp,kp,kp,kp,kq,kp,kp,kp,kp,kp] rfl rfl ?_
      refine DL.mv 32 (.int .i32 100) rfl rfl rfl ?_
      refine DL.pu 33 (.bool false) rfl (show FPure _ _ _ (.bool ((100 : Int) == (116 : Int))) from p_eql rfl rfl rfl) ?_
      refine DL.mv 34 (.bool false) rfl rfl rfl ?_
      refine DL.nt rfl rfl rfl rfl rfl rfl rfl ?_
      refine DL.nt rfl rfl rfl rfl rfl rfl rfl ?_
      refine DL.nt rfl rfl rfl rfl rfl rfl rfl ?_
      refine DL.nt rfl rfl rfl rfl rfl rfl rfl ?_
      refine DL.not rfl (Wn.undef rfl rfl rfl) rfl rfl ?_
      refine DL.not rfl (Wn.undef rfl rfl rfl) rfl rfl ?_
      refine DL.not rfl (Wn.undef rfl rfl rfl) rfl rfl ?_
      refine DL.nt rfl rfl rfl rfl rfl rfl rfl ?_
      refine DL.pu 43 (.bool false) rfl (p_pick_false rfl rfl rfl) ?_
      refine DL.mv 44 (.bool false) rfl rfl rfl ?_
      refine DL.pure (v:=.int .i32 100) rfl (Wn.some rfl rfl rfl rfl) rfl rfl rfl (p_move rfl rfl) ?_
      refine DL.pure (v:=.bool false) rfl (Wn.some rfl rfl rfl rfl) rfl rfl rfl (show FPure _ _ _ (.bool ((100 : Int) == (97 : Int))) from p_eql rfl rfl rfl) ?_
      refine DL.pure (v:=.bool false) rfl (Wn.some rfl rfl rfl rfl) rfl rfl rfl (p_move rfl rfl) ?_
      refine DL.nt rfl rfl rfl rfl rfl rfl rfl ?_
      refine DL.nt rfl rfl rfl rfl rfl rfl rfl ?_
      refine DL.nt rfl rfl rfl rfl rfl rfl rfl ?_
      refine DL.nt rfl rfl rfl rfl rfl rfl rfl ?_
      refine DL.not rfl (Wn.undef rfl rfl rfl) rfl rfl ?_
      refine DL.not rfl (Wn.undef rfl rfl rfl) rfl rfl ?_
      refine DL.not rfl (Wn.undef rfl rfl rfl) rfl rfl ?_
      refine DL.nt rfl rfl rfl rfl rfl rfl rfl ?_
      refine DL.pure (v:=.bool false) rfl (Wn.some rfl rfl rfl rfl) rfl rfl rfl (p_pick_false rfl rfl rfl) ?_
      refine DL.pu 57 (.bool false) rfl (p_pick_false rfl rfl rfl) ?_
      refine DL.mv 58 (.bool false) rfl rfl rfl ?_
      refine DL.pure (v:=.int .i32 100) rfl (Wn.some rfl rfl rfl rfl) rfl rfl rfl (p_move rfl rfl) ?_
      refine DL.pure (v:=.bool true) rfl (Wn.some rfl rfl rfl rfl) rfl rfl rfl (show FPure _ _ _ (.bool ((100 : Int) == (100 : Int))) from p_eql rfl rfl rfl) ?_
      refine DL.pure (v:=.bool true) rfl (Wn.some rfl rfl rfl rfl) rfl rfl rfl (p_move rfl rfl) ?_
      refine DL.pure (v:=ptr b1 38) rfl (Wn.some rfl rfl rfl rfl) rfl rfl rfl (p_fieldAddr ty_f33_7 rfl rfl) ?_
      refine DL.quiet (v:=a0_38) rfl (Wn.some rfl rfl rfl rfl) rfl rfl rfl (FImm.quiet (i_loadBoxO (I:=M7) (hx7 _ _ hm_2) rfl ty_a31 rfl rfl) (fun w hc => hE22.imm hc)) ?_
      refine DL.pure (v:=.int .i64 (a0.data.length : Int)) rfl (Wn.some rfl rfl rfl rfl) rfl rfl rfl (p_slLen ty_u31 (RowV.sl (IntRow.mono hr_a0_38 (hx2.trans hx7))) rfl rfl) ?_
      refine DL.pure (v:=.int .i64 j3_35) rfl (Wn.some rfl rfl rfl rfl) rfl rfl rfl (p_move rfl rfl) ?_
      refine DL.pure (v:=.bool (decide (j3_35 < (a0.data.length : Int)))) rfl (Wn.some rfl rfl rfl rfl) rfl rfl rfl (p_gtr rfl rfl rfl) ?_
      refine DL.pure (v:=.bool (decide (j3_35 < (a0.data.length : Int)))) rfl (Wn.some rfl rfl rfl rfl) rfl rfl rfl (p_pick_true rfl rfl rfl) ?_
      refine DL.pu 68 (.bool (decide (j3_35 < (a0.data.length : Int)))) rfl (p_pick_false rfl rfl rfl) ?_
      refine DL.nil ?_
      by_cases c142 : (decide (j3_35 < (a0.data.length : Int))) = true
      ·
       have h143:=ite_true c142 h44
       refine TT.ct rfl rfl c142 ?_
       refine TT.sq rfl ?_
       refine TT.rg [0] [kp] rfl rfl ?_
       refine DL.pu 2 (.bool false) rfl (p_assign rfl rfl) ?_
       refine DL.nil ?_
       obtain rfl:=Option.some.inj h143
       exact retnE (rs:=[.tmp 2]) (vs:=[.bool false]) hE22.base Tryz.func92 rfl rfl rfl (res_cons (ResV.tmp rfl) res_nil) rfl
      ·
       replace c142:=Bool.eq_false_iff.mpr c142
       have h144:=ite_false c142 h44
       refine TT.cf rfl rfl c142 ?_
       refine TT.skip ?_
       refine TT.inBlock ?_
       refine TT.inLoop ?_
       refine TT.sq rfl ?_
       refine TT.rg [0,1] [kx,kp] rfl rfl ?_
       refine DL.chrE (j:=0) rfl rfl rfl rfl rfl rfl (by decide) rfl rfl ?_
       refine DL.pu 30 (.bool false) rfl (p_extract rfl rfl rfl) ?_
       refine DL.nil ?_
       refine TT.sq rfl ?_
       refine TT.cf rfl rfl rfl ?_
       refine TT.exit rfl ?_
       refine TT.sq rfl ?_
       refine TT.rg [0] [kp] rfl rfl ?_
       refine DL.pu 2 (.bool true) rfl (p_assign rfl rfl) ?_
       refine DL.nil ?_
       obtain rfl:=Option.some.inj h144
       exact retnE (rs:=[.tmp 2]) (vs:=[.bool true]) hE22.base Tryz.func92 rfl rfl rfl (res_cons (ResV.tmp rfl) res_nil) rfl
     replace h44:=(if_neg (by simpa using hs45_3)).symm.trans h44
     by_cases hs45_4 : t42 = [104,111]
     ·
      subst hs45_4
      replace h44:=(if_pos (by decide)).symm.trans h44
      refine DL.keep (X:=Nat) (u:=fun b => ptr b 0) (H':=fun b => (some b,.stringIter ⟨#[104,111]⟩ 0) :: []) (fun _ p hp => List.mem_cons_of_mem _ hp) (i:=3) rfl (Wn.none rfl) rfl rfl rfl (f_rangeText (s:=⟨#[104,111]⟩) (by kernel_rfl : Tryz.prog.underlying 9 = some .string) rfl rfl) ?_
      intro b145
      refine DL.nil ?_
      refine TT.bk rfl ?_
      refine TT.lp rfl ?_
      refine TT.sq rfl ?_
      refine TT.rg [0,1] [kx,kp] rfl rfl ?_
      refine DL.chr (j:=0) (c:=104) (wd:=1) rfl rfl rfl rfl rfl rfl (by decide) (by kernel_rfl) rfl rfl ?_
      refine DL.pu 30 (.bool true) rfl (p_extract rfl rfl rfl) ?_
      refine DL.nil ?_
      refine TT.sq rfl ?_
      refine TT.ct rfl rfl rfl ?_
      refine TT.skip ?_
      refine TT.bk rfl ?_
      refine TT.sq rfl ?_
      refine TT.rg [0,1] [kp,kp] rfl rfl ?_
      refine DL.pu 31 (.int .i32 104) rfl (p_extract rfl rfl rfl) ?_
      refine DL.pu 5 (.int .i32 104) rfl (p_assign rfl rfl) ?_
      refine DL.nil ?_
      refine TT.sq rfl ?_
      refine TT.rg [0,1,2,3,4,5,6,7,8,9,10,11,12,13,14,15,16,17,18,19,20,21,22,23,24,25,26,27,28,29,30,31,32,33,34,35,36] [kp,kp,kp,kp,kq,kp,kp,kp,kq,kp,kp,kp,kp,kp,kp,kp,kp,kq,kp,kp,kp,kq,kp,kp,kp,kp,kp,kp,kp,kp,kp,kq,kp,kp,kp,kp,kp] rfl rfl ?_
      refine DL.mv 32 (.int .i32 104) rfl rfl rfl ?_
      refine DL.pu 33 (.bool false) rfl (show FPure _ _ _ (.bool ((104 : Int) == (116 : Int))) from p_eql rfl rfl rfl) ?_
      refine DL.mv 34 (.bool false) rfl rfl rfl ?_
      refine DL.nt rfl rfl rfl rfl rfl rfl rfl ?_
      refine DL.nt rfl rfl rfl rfl rfl rfl rfl ?_
      refine DL.nt rfl rfl rfl rfl rfl rfl rfl ?_
      refine DL.nt rfl rfl rfl rfl rfl rfl rfl ?_
      refine DL.not rfl (Wn.undef rfl rfl rfl) rfl rfl ?_
      refine DL.not rfl (Wn.undef rfl rfl rfl) rfl rfl ?_
      refine DL.not rfl (Wn.undef rfl rfl rfl) rfl rfl ?_
      refine DL.nt rfl rfl rfl rfl rfl rfl rfl ?_
      refine DL.pu 43 (.bool false) rfl (p_pick_false rfl rfl rfl) ?_
      refine DL.mv 44 (.bool false) rfl rfl rfl ?_
      refine DL.pure (v:=.int .i32 104) rfl (Wn.some rfl rfl rfl rfl) rfl rfl rfl (p_move rfl rfl) ?_
      refine DL.pure (v:=.bool false) rfl (Wn.some rfl rfl rfl rfl) rfl rfl rfl (show FPure _ _ _ (.bool ((104 : Int) == (97 : Int))) from p_eql rfl rfl rfl) ?_
      refine DL.pure (v:=.bool false) rfl (Wn.some rfl rfl rfl rfl) rfl rfl rfl (p_move rfl rfl) ?_
      refine DL.nt rfl rfl rfl rfl rfl rfl rfl ?_
      refine DL.nt rfl rfl rfl rfl rfl rfl rfl ?_
      refine DL.nt rfl rfl rfl rfl rfl rfl rfl ?_
      refine DL.nt rfl rfl rfl rfl rfl rfl rfl ?_
      refine DL.not rfl (Wn.undef rfl rfl rfl) rfl rfl ?_
      refine DL.not rfl (Wn.undef rfl rfl rfl) rfl rfl ?_
      refine DL.not rfl (Wn.undef rfl rfl rfl) rfl rfl ?_
      refine DL.nt rfl rfl rfl rfl rfl rfl rfl ?_
      refine DL.pure (v:=.bool false) rfl (Wn.some rfl rfl rfl rfl) rfl rfl rfl (p_pick_false rfl rfl rfl) ?_
      refine DL.pu 57 (.bool false) rfl (p_pick_false rfl rfl rfl) ?_
      refine DL.mv 58 (.bool false) rfl rfl rfl ?_
      refine DL.pure (v:=.int .i32 104) rfl (Wn.some rfl rfl rfl rfl) rfl rfl rfl (p_move rfl rfl) ?_
      refine DL.pure (v:=.bool false) rfl (Wn.some rfl rfl rfl rfl) rfl rfl rfl (show FPure _ _ _ (.bool ((104 : Int) == (100 : Int))) from p_eql rfl rfl rfl) ?_
      refine DL.pure (v:=.bool false) rfl (Wn.some rfl rfl rfl rfl) rfl rfl rfl (p_move rfl rfl) ?_
      refine DL.nt rfl rfl rfl rfl rfl rfl rfl ?_
      refine DL.nt rfl rfl rfl rfl rfl rfl rfl ?_
      refine DL.nt rfl rfl rfl rfl rfl rfl rfl ?_
      refine DL.nt rfl rfl rfl rfl rfl rfl rfl ?_
      refine DL.nt rfl rfl rfl rfl rfl rfl rfl ?_
      refine DL.pure (v:=.bool false) rfl (Wn.some rfl rfl rfl rfl) rfl rfl rfl (p_pick_false rfl rfl rfl) ?_
      refine DL.pu 68 (.bool false) rfl (p_pick_false rfl rfl rfl) ?_
      refine DL.nil ?_
      refine TT.cf rfl rfl rfl ?_
      refine TT.skip ?_
      refine TT.inBlock ?_
      refine TT.inLoop ?_
      refine TT.sq rfl ?_
      refine TT.rg [0,1] [kx,kp] rfl rfl ?_
      refine DL.chr (j:=0) (c:=111) (wd:=1) rfl rfl rfl rfl rfl rfl (by decide) (by kernel_rfl) rfl rfl ?_
      refine DL.pu 30 (.bool true) rfl (p_extract rfl rfl rfl) ?_
      refine DL.nil ?_
      refine TT.sq rfl ?_
      refine TT.ct rfl rfl rfl ?_
      refine TT.skip ?_
      refine TT.bk rfl ?_
      refine TT.sq rfl ?_
      refine TT.rg [0,1] [kp,kp] rfl rfl ?_
      refine DL.pu 31 (.int .i32 111) rfl (p_extract rfl rfl rfl) ?_
      refine DL.pu 5 (.int .i32 111) rfl (p_assign rfl rfl) ?_
      refine DL.nil ?_
      refine TT.sq rfl ?_
      refine TT.rg [0,1,2,3,4,5,6,7,8,9,10,11,12,13,14,15,16,17,18,19,20,21,22,23,24,25,26,27,28,29,30,31,32,33,34,35,36] [kp,kp,kp,kp,kq,kp,kp,kp,kq,kp,kp,kp,kp,kp,kp,kp,kp,kq,kp,kp,kp,kq,kp,kp,kp,kp,kp,kp,kp,kp,kp,kq,kp,kp,kp,kp,kp] rfl rfl ?_
      refine DL.mv 32 (.int .i32 111) rfl rfl rfl ?_
      refine DL.pu 33 (.bool false) rfl (show FPure _ _ _ (.bool ((111 : Int) == (116 : Int))) from p_eql rfl rfl rfl) ?_
      refine DL.mv 34 (.bool false) rfl rfl rfl ?_
      refine DL.nt rfl rfl rfl rfl rfl rfl rfl ?_
      refine DL.nt rfl rfl rfl rfl rfl rfl rfl ?_
      refine DL.nt rfl rfl rfl rfl rfl rfl rfl ?_
      refine DL.nt rfl rfl rfl rfl rfl rfl rfl ?_
      refine DL.not rfl (Wn.undef rfl rfl rfl) rfl rfl ?_
      refine DL.not rfl (Wn.undef rfl rfl rfl) rfl rfl ?_
      refine DL.not rfl (Wn.undef rfl rfl rfl) rfl rfl ?_
      refine DL.nt rfl rfl rfl rfl rfl rfl rfl ?_
      refine DL.pu 43 (.bool false) rfl (p_pick_false rfl rfl rfl) ?_
      refine DL.mv 44 (.bool false) rfl rfl rfl ?_
      refine DL.pure (v:=.int .i32 111) rfl (Wn.some rfl rfl rfl rfl) rfl rfl rfl (p_move rfl rfl) ?_
      refine DL.pure (v:=.bool false) rfl (Wn.some rfl rfl rfl rfl) rfl rfl rfl (show FPure _ _ _ (.bool ((111 : Int) == (97 : Int))) from p_eql rfl rfl rfl) ?_
      refine DL.pure (v:=.bool false) rfl (Wn.some rfl rfl rfl rfl) rfl rfl rfl (p_move rfl rfl) ?_
      refine DL.nt rfl rfl rfl rfl rfl rfl rfl ?_
      refine DL.nt rfl rfl rfl rfl rfl rfl rfl ?_
      refine DL.nt rfl rfl rfl rfl rfl rfl rfl ?_
      refine DL.nt rfl rfl rfl rfl rfl rfl rfl ?_
      refine DL.not rfl (Wn.undef rfl rfl rfl) rfl rfl ?_
      refine DL.not rfl (Wn.undef rfl rfl rfl) rfl rfl ?_
      refine DL.not rfl (Wn.undef rfl rfl rfl) rfl rfl ?_
      refine DL.nt rfl rfl rfl rfl rfl rfl rfl ?_
      refine DL.pure (v:=.bool false) rfl (Wn.some rfl rfl rfl rfl) rfl rfl rfl (p_pick_false rfl rfl rfl) ?_
      refine DL.pu 57 (.bool false) rfl (p_pick_false rfl rfl rfl) ?_
      refine DL.mv 58 (.bool false) rfl rfl rfl ?_
      refine DL.pure (v:=.int .i32 111) rfl (Wn.some rfl rfl rfl rfl) rfl rfl rfl (p_move rfl rfl) ?_
      refine DL.pure (v:=.bool false) rfl (Wn.some rfl rfl rfl rfl) rfl rfl rfl (show FPure _ _ _ (.bool ((111 : Int) == (100 : Int))) from p_eql rfl rfl rfl) ?_
      refine DL.pure (v:=.bool false) rfl (Wn.some rfl rfl rfl rfl) rfl rfl rfl (p_move rfl rfl) ?_
      refine DL.nt rfl rfl rfl rfl rfl rfl rfl ?_
      refine DL.nt rfl rfl rfl rfl rfl rfl rfl ?_
      refine DL.nt rfl rfl rfl rfl rfl rfl rfl ?_
      refine DL.nt rfl rfl rfl rfl rfl rfl rfl ?_
      refine DL.nt rfl rfl rfl rfl rfl rfl rfl ?_
      refine DL.pure (v:=.bool false) rfl (Wn.some rfl rfl rfl rfl) rfl rfl rfl (p_pick_false rfl rfl rfl) ?_
      refine DL.pu 68 (.bool false) rfl (p_pick_false rfl rfl rfl) ?_
      refine DL.nil ?_
      refine TT.cf rfl rfl rfl ?_
      refine TT.skip ?_
      refine TT.inBlock ?_
      refine TT.inLoop ?_
      refine TT.sq rfl ?_
      refine TT.rg [0,1] [kx,kp] rfl rfl ?_
      refine DL.chrE (j:=0) rfl rfl rfl rfl rfl rfl (by decide) rfl rfl ?_
      refine DL.pu 30 (.bool false) rfl (p_extract rfl rfl rfl) ?_
      refine DL.nil ?_
      refine TT.sq rfl ?_
      refine TT.cf rfl rfl rfl ?_
      refine TT.exit rfl ?_
      refine TT.sq rfl ?_
      refine TT.rg [0] [kp] rfl rfl ?_
      refine DL.pu 2 (.bool true) rfl (p_assign rfl rfl) ?_
      refine DL.nil ?_
      obtain rfl:=Option.some.inj h44
      exact retnE (rs:=[.tmp 2]) (vs:=[.bool true]) hE22.base Tryz.func92 rfl rfl rfl (res_cons (ResV.tmp rfl) res_nil) rfl
     replace h44:=(if_neg (by simpa using hs45_4)).symm.trans h44
     by_cases hs45_5 : t42 = [104,97,100]
     ·
      subst hs45_5
      replace h44:=(if_pos (by decide)).symm.trans h44
      refine DL.keep (X:=Nat) (u:=fun b => ptr b 0) (H':=fun b => (some b,.stringIter ⟨#[104,97,100]⟩ 0) :: []) (fun _ p hp => List.mem_cons_of_mem _ hp) (i:=3) rfl (Wn.none rfl) rfl rfl rfl (f_rangeText (s:=⟨#[104,97,100]⟩) (by kernel_rfl : Tryz.prog.underlying 9 = some .string) rfl rfl) ?_
      intro b146
      refine DL.nil ?_
      refine TT.bk rfl ?_
      refine TT.lp rfl ?_
      refine TT.sq rfl ?_
      refine TT.rg [0,1] [kx,kp] rfl rfl ?_
      refine DL.chr (j:=0) (c:=104) (wd:=1) rfl rfl rfl rfl rfl rfl (by decide) (by kernel_rfl) rfl rfl ?_
      refine DL.pu 30 (.bool true) rfl (p_extract rfl rfl rfl) ?_
      refine DL.nil ?_
      refine TT.sq rfl ?_
      refine TT.ct rfl rfl rfl ?_
      refine TT.skip ?_
      refine TT.bk rfl ?_
      refine TT.sq rfl ?_
      refine TT.rg [0,1] [kp,kp] rfl rfl ?_
      refine DL.pu 31 (.int .i32 104) rfl (p_extract rfl rfl rfl) ?_
      refine DL.pu 5 (.int .i32 104) rfl (p_assign rfl rfl) ?_
      refine DL.nil ?_
      refine TT.sq rfl ?_
      refine TT.rg [0,1,2,3,4,5,6,7,8,9,10,11,12,13,14,15,16,17,18,19,20,21,22,23,24,25,26,27,28,29,30,31,32,33,34,35,36] [kp,kp,kp,kp,kq,kp,kp,kp,kq,kp,kp,kp,kp,kp,kp,kp,kp,kq,kp,kp,kp,kq,kp,kp,kp,kp,kp,kp,kp,kp,kp,kq,kp,kp,kp,kp,kp] rfl rfl ?_
      refine DL.mv 32 (.int .i32 104) rfl rfl rfl ?_
      refine DL.pu 33 (.bool false) rfl (show FPure _ _ _ (.bool ((104 : Int) == (116 : Int))) from p_eql rfl rfl rfl) ?_
      refine DL.mv 34 (.bool false) rfl rfl rfl ?_
      refine DL.nt rfl rfl rfl rfl rfl rfl rfl ?_
      refine DL.nt rfl rfl rfl rfl rfl rfl rfl ?_
      refine DL.nt rfl rfl rfl rfl rfl rfl rfl ?_
      refine DL.nt rfl rfl rfl rfl rfl rfl rfl ?_
      refine DL.not rfl (Wn.undef rfl rfl rfl) rfl rfl ?_
      refine DL.not rfl (Wn.undef rfl rfl rfl) rfl rfl ?_
      refine DL.not rfl (Wn.undef rfl rfl rfl) rfl rfl ?_
      refine DL.nt rfl rfl rfl rfl rfl rfl rfl ?_
      refine DL.pu 43 (.bool false) rfl (p_pick_false rfl rfl rfl) ?_
      refine DL.mv 44 (.bool false) rfl rfl rfl ?_
      refine DL.pure (v:=.int .i32 104) rfl (Wn.some rfl rfl rfl rfl) rfl rfl rfl (p_move rfl rfl) ?_
      refine DL.pure (v:=.bool false) rfl (Wn.some rfl rfl rfl rfl) rfl rfl rfl (show FPure _ _ _ (.bool ((104 : Int) == (97 : Int))) from p_eql rfl rfl rfl) ?_
      refine DL.pure (v:=.bool false) rfl (Wn.some rfl rfl rfl rfl) rfl rfl rfl (p_move rfl rfl) ?_
      refine DL.nt rfl rfl rfl rfl rfl rfl rfl ?_
      refine DL.nt rfl rfl rfl rfl rfl rfl rfl ?_
      refine DL.nt rfl rfl rfl rfl rfl rfl rfl ?_
      refine DL.nt rfl rfl rfl rfl rfl rfl rfl ?_
      refine DL.not rfl (Wn.undef rfl rfl rfl) rfl rfl ?_
      refine DL.not rfl (Wn.undef rfl rfl rfl) rfl rfl ?_
      refine DL.not rfl (Wn.undef rfl rfl rfl) rfl rfl ?_
      refine DL.nt rfl rfl rfl rfl rfl rfl rfl ?_
      refine DL.pure (v:=.bool false) rfl (Wn.some rfl rfl rfl rfl) rfl rfl rfl (p_pick_false rfl rfl rfl) ?_
      refine DL.pu 57 (.bool false) rfl (p_pick_false rfl rfl rfl) ?_
      refine DL.mv 58 (.bool false) rfl rfl rfl ?_
      refine DL.pure (v:=.int .i32 104) rfl (Wn.some rfl rfl rfl rfl) rfl rfl rfl (p_move rfl rfl) ?_
      refine DL.pure (v:=.bool false) rfl (Wn.some rfl rfl rfl rfl) rfl rfl rfl (show FPure _ _ _ (.bool ((104 : Int) == (100 : Int))) from p_eql rfl rfl rfl) ?_
      refine DL.pure (v:=.bool false) rfl (Wn.some rfl rfl rfl rfl) rfl rfl rfl (p_move rfl rfl) ?_
      refine DL.nt rfl rfl rfl rfl rfl rfl rfl ?_
      refine DL.nt rfl rfl rfl rfl rfl rfl rfl ?_
      refine DL.nt rfl rfl rfl rfl rfl rfl rfl ?_
      refine DL.nt rfl rfl rfl rfl rfl rfl rfl ?_
      refine DL.nt rfl rfl rfl rfl rfl rfl rfl ?_
      refine DL.pure (v:=.bool false) rfl (Wn.some rfl rfl rfl rfl) rfl rfl rfl (p_pick_false rfl rfl rfl) ?_
      refine DL.pu 68 (.bool false) rfl (p_pick_false rfl rfl rfl) ?_
      refine DL.nil ?_
      refine TT.cf rfl rfl rfl ?_
      refine TT.skip ?_
      refine TT.inBlock ?_
      refine TT.inLoop ?_
      refine TT.sq rfl ?_
      refine TT.rg [0,1] [kx,kp] rfl rfl ?_
      refine DL.chr (j:=0) (c:=97) (wd:=1) rfl rfl rfl rfl rfl rfl (by decide) (by kernel_rfl) rfl rfl ?_
      refine DL.pu 30 (.bool true) rfl (p_extract rfl rfl rfl) ?_
      refine DL.nil ?_
      refine TT.sq rfl ?_
      refine TT.ct rfl rfl rfl ?_
      refine TT.skip ?_
      refine TT.bk rfl ?_
      refine TT.sq rfl ?_
      refine TT.rg [0,1] [kp,kp] rfl rfl ?_
      refine DL.pu 31 (.int .i32 97) rfl (p_extract rfl rfl rfl) ?_
      refine DL.pu 5 (.int .i32 97) rfl (p_assign rfl rfl) ?_
      refine DL.nil ?_
      refine TT.sq rfl ?_
      refine TT.rg [0,1,2,3,4,5,6,7,8,9,10,11,12,13,14,15,16,17,18,19,20,21,22,23,24,25,26,27,28,29,30,31,32,33,34,35,36] [kp,kp,kp,kp,kq,kp,kp,kp,kq,kp,kp,kp,kp,kp,kp,kp,kp,kq,kp,kp,kp,kq,kp,kp,kp,kp,kp,kp,kp,kp,kp,kq,kp,kp,kp,kp,kp] rfl rfl ?_
      refine DL.mv 32 (.int .i32 97) rfl rfl rfl ?_
      refine DL.pu 33 (.bool false) rfl (show FPure _ _ _ (.bool ((97 : Int) == (116 : Int))) from p_eql rfl rfl rfl) ?_
      refine DL.mv 34 (.bool false) rfl rfl rfl ?_
      refine DL.nt rfl rfl rfl rfl rfl rfl rfl ?_
      refine DL.nt rfl rfl rfl rfl rfl rfl rfl ?_
      refine DL.nt rfl rfl rfl rfl rfl rfl rfl ?_
      refine DL.nt rfl rfl rfl rfl rfl rfl rfl ?_
      refine DL.not rfl (Wn.undef rfl rfl rfl) rfl rfl ?_
      refine DL.not rfl (Wn.undef rfl rfl rfl) rfl rfl ?_
      refine DL.not rfl (Wn.undef rfl rfl rfl) rfl rfl ?_
      refine DL.nt rfl rfl rfl rfl rfl rfl rfl ?_
      refine DL.pu 43 (.bool false) rfl (p_pick_false rfl rfl rfl) ?_
      refine DL.mv 44 (.bool false) rfl rfl rfl ?_
      refine DL.pure (v:=.int .i32 97) rfl (Wn.some rfl rfl rfl rfl) rfl rfl rfl (p_move rfl rfl) ?_
      refine DL.pure (v:=.bool true) rfl (Wn.some rfl rfl rfl rfl) rfl rfl rfl (show FPure _ _ _ (.bool ((97 : Int) == (97 : Int))) from p_eql rfl rfl rfl) ?_
      refine DL.pure (v:=.bool true) rfl (Wn.some rfl rfl rfl rfl) rfl rfl rfl (p_move rfl rfl) ?_
      refine DL.pure (v:=ptr b1 5) rfl (Wn.some rfl rfl rfl rfl) rfl rfl rfl (p_fieldAddr ty_f33_5 rfl rfl) ?_
      refine DL.quiet (v:=.int .i64 a0.attr) rfl (Wn.some rfl rfl rfl rfl) rfl rfl rfl (FImm.quiet (i_loadBoxO (I:=M7) (hx7 _ _ hm_2) rfl ty_a30 rfl rfl) (fun w hc => hE22.imm hc)) ?_
      refine DL.pure (v:=.bool (decide (a0.attr < 0))) rfl (Wn.some rfl rfl rfl rfl) rfl rfl rfl (p_lss rfl rfl rfl) ?_
      refine DL.pure (v:=.bool (decide (a0.attr < 0))) rfl (Wn.some rfl rfl rfl rfl) rfl rfl rfl (p_move rfl rfl) ?_
      obtain ⟨q148,h149,h150⟩:=bind_some h44
      refine DL.cut [(1,ptr b1 0),(3,.int .i64 j3_35),(5,.int .i32 97),(28,ptr b146 0),(35,undef),(36,undef),(37,undef),(38,undef),(39,undef),(40,undef),(41,undef),(42,undef),(44,.bool false),(45,.int .i32 97),(46,.bool true),(47,.bool true),(48,ptr b1 5),(49,.int .i64 a0.attr),(50,.bool (decide (a0.attr < 0))),(51,.bool (decide (a0.attr < 0))),(55,.bool q148)] [24,25,26,27,28,29,30,31,32,33,34,35,36] ?_ (fun J151 => ?_)
      ·
       refine DL.pure (v:=.bool q148) rfl (Wn.some rfl rfl rfl rfl) rfl rfl rfl (p_pick_true rfl rfl rfl) ?_
       refine DL.pu 57 (.bool q148) rfl (p_pick_false rfl rfl rfl) ?_
       refine DL.mv 58 (.bool q148) rfl rfl rfl ?_
       obtain ⟨q156,h157,h158⟩:=bind_some h150
       refine DL.cut [(1,ptr b1 0),(3,.int .i64 j3_35),(28,ptr b146 0),(35,undef),(36,undef),(37,undef),(38,undef),(39,undef),(40,undef),(41,undef),(42,undef),(45,.int .i32 97),(46,.bool true),(47,.bool true),(48,ptr b1 5),(49,.int .i64 a0.attr),(50,.bool (decide (a0.attr < 0))),(51,.bool (decide (a0.attr < 0))),(55,.bool q148),(56,.bool q148),(68,.bool q156)] [] ?_ (fun J159 => ?_)
       ·
        refine DL.nil ?_
        by_cases c163 : q156 = true
        ·
         have h164:=ite_true c163 h158
         refine TT.ct rfl rfl c163 ?_
         refine TT.sq rfl ?_
         refine TT.rg [0] [kp] rfl rfl ?_
         refine DL.pu 2 (.bool false) rfl (p_assign rfl rfl) ?_
         refine DL.nil ?_
         obtain rfl:=Option.some.inj h164
         exact retnE (rs:=[.tmp 2]) (vs:=[.bool false]) hE22.base Tryz.func92 rfl rfl rfl (res_cons (ResV.tmp rfl) res_nil) rfl
        ·
         replace c163:=Bool.eq_false_iff.mpr c163
         have h165:=ite_false c163 h158
         refine TT.cf rfl rfl c163 ?_
         refine TT.skip ?_
         refine TT.inBlock ?_
         refine TT.inLoop ?_
         refine TT.sq rfl ?_
         refine TT.rg [0,1] [kx,kp] rfl rfl ?_
         refine DL.chr (j:=0) (c:=100) (wd:=1) rfl rfl rfl rfl rfl rfl (by decide) (by kernel_rfl) rfl rfl ?_
         refine DL.pu 30 (.bool true) rfl (p_extract rfl rfl rfl) ?_
         refine DL.nil ?_
         refine TT.sq rfl ?_
         refine TT.ct rfl rfl rfl ?_
         refine TT.skip ?_
         refine TT.bk rfl ?_
         refine TT.sq rfl ?_
         refine TT.rg [0,1] [kp,kp] rfl rfl ?_
         refine DL.pu 31 (.int .i32 100) rfl (p_extract rfl rfl rfl) ?_
         refine DL.pu 5 (.int .i32 100) rfl (p_assign rfl rfl) ?_
         refine DL.nil ?_
         refine TT.sq rfl ?_
         refine TT.rg [0,1,2,3,4,5,6,7,8,9,10,11,12,13,14,15,16,17,18,19,20,21,22,23,24,25,26,27,28,29,30,31,32,33,34,35,36] [kp,kp,kp,kp,kq,kp,kp,kp,kq,kp,kp,kp,kp,kp,kp,kp,kp,kq,kp,kp,kp,kq,kp,kp,kp,kp,kp,kp,kp,kp,kp,kq,kp,kp,kp,kp,kp] rfl rfl ?_
         refine DL.mv 32 (.int .i32 100) rfl rfl rfl ?_
         refine DL.pu 33 (.bool false) rfl (show FPure _ _ _ (.bool ((100 : Int) == (116 : Int))) from p_eql rfl rfl rfl) ?_
         refine DL.mv 34 (.bool false) rfl rfl rfl ?_
         refine DL.nt rfl rfl rfl rfl rfl rfl rfl ?_
         refine DL.nt rfl rfl rfl rfl rfl rfl rfl ?_
         refine DL.nt rfl rfl rfl rfl rfl rfl rfl ?_
         refine DL.nt rfl rfl rfl rfl rfl rfl rfl ?_
         refine DL.not rfl (Wn.undef rfl rfl rfl) rfl rfl ?_
         refine DL.not rfl (Wn.undef rfl rfl rfl) rfl rfl ?_
         refine DL.not rfl (Wn.undef rfl rfl rfl) rfl rfl ?_
         refine DL.nt rfl rfl rfl rfl rfl rfl rfl ?_
         refine DL.pu 43 (.bool false) rfl (p_pick_false rfl rfl rfl) ?_
         refine DL.mv 44 (.bool false) rfl rfl rfl ?_
         refine DL.pure (v:=.int .i32 100) rfl (Wn.some rfl rfl rfl rfl) rfl rfl rfl (p_move rfl rfl) ?_
         refine DL.pure (v:=.bool false) rfl (Wn.some rfl rfl rfl rfl) rfl rfl rfl (show FPure _ _ _ (.bool ((100 : Int) == (97 : Int))) from p_eql rfl rfl rfl) ?_
         refine DL.pure (v:=.bool false) rfl (Wn.some rfl rfl rfl rfl) rfl rfl rfl (p_move rfl rfl) ?_
         refine DL.nt rfl rfl rfl rfl rfl rfl rfl ?_
         refine DL.nt rfl rfl rfl rfl rfl rfl rfl ?_
         refine DL.nt rfl rfl rfl rfl rfl rfl rfl ?_
         refine DL.nt rfl rfl rfl rfl rfl rfl rfl ?_
         refine DL.not rfl (Wn.undef rfl rfl rfl) rfl rfl ?_
         refine DL.not rfl (Wn.undef rfl rfl rfl) rfl rfl ?_
         refine DL.not rfl (Wn.undef rfl rfl rfl) rfl rfl ?_
         refine DL.nt rfl rfl rfl rfl rfl rfl rfl ?_
         refine DL.pure (v:=.bool false) rfl (Wn.some rfl rfl rfl rfl) rfl rfl rfl (p_pick_false rfl rfl rfl) ?_
         refine DL.pu 57 (.bool false) rfl (p_pick_false rfl rfl rfl) ?_
         refine DL.mv 58 (.bool false) rfl rfl rfl ?_
         refine DL.pure (v:=.int .i32 100) rfl (Wn.some rfl rfl rfl rfl) rfl rfl rfl (p_move rfl rfl) ?_
         refine DL.pure (v:=.bool true) rfl (Wn.some rfl rfl rfl rfl) rfl rfl rfl (show FPure _ _ _ (.bool ((100 : Int) == (100 : Int))) from p_eql rfl rfl rfl) ?_
         refine DL.pure (v:=.bool true) rfl (Wn.some rfl rfl rfl rfl) rfl rfl rfl (p_move rfl rfl) ?_
         refine DL.pure (v:=ptr b1 38) rfl (Wn.some rfl rfl rfl rfl) rfl rfl rfl (p_fieldAddr ty_f33_7 rfl rfl) ?_
         refine DL.quiet (v:=a0_38) rfl (Wn.some rfl rfl rfl rfl) rfl rfl rfl (FImm.quiet (i_loadBoxO (I:=M7) (hx7 _ _ hm_2) rfl ty_a31 rfl rfl) (fun w hc => hE22.imm hc)) ?_
         refine DL.pure (v:=.int .i64 (a0.data.length : Int)) rfl (Wn.some rfl rfl rfl rfl) rfl rfl rfl (p_slLen ty_u31 (RowV.sl (IntRow.mono hr_a0_38 (hx2.trans hx7))) rfl rfl) ?_
         refine DL.pure (v:=.int .i64 j3_35) rfl (Wn.some rfl rfl rfl rfl) rfl rfl rfl (p_move rfl rfl) ?_
         refine DL.pure (v:=.bool (decide (j3_35 < (a0.data.length : Int)))) rfl (Wn.some rfl rfl rfl rfl) rfl rfl rfl (p_gtr rfl rfl rfl) ?_
         refine DL.pure (v:=.bool (decide (j3_35 < (a0.data.length : Int)))) rfl (Wn.some rfl rfl rfl rfl) rfl rfl rfl (p_pick_true rfl rfl rfl) ?_
         refine DL.pu 68 (.bool (decide (j3_35 < (a0.data.length : Int)))) rfl (p_pick_false rfl rfl rfl) ?_
         refine DL.nil ?_
         by_cases c166 : (decide (j3_35 < (a0.data.length : Int))) = true
         ·
          have h167:=ite_true c166 h165
          refine TT.ct rfl rfl c166 ?_
          refine TT.sq rfl ?_
          refine TT.rg [0] [kp] rfl rfl ?_
          refine DL.pu 2 (.bool false) rfl (p_assign rfl rfl) ?_
          refine DL.nil ?_
          obtain rfl:=Option.some.inj h167
          exact retnE (rs:=[.tmp 2]) (vs:=[.bool false]) hE22.base Tryz.func92 rfl rfl rfl (res_cons (ResV.tmp rfl) res_nil) rfl
         ·
          replace c166:=Bool.eq_false_iff.mpr c166
          have h168:=ite_false c166 h165
          refine TT.cf rfl rfl c166 ?_
          refine TT.skip ?_
          refine TT.inBlock ?_
          refine TT.inLoop ?_
          refine TT.sq rfl ?_
          refine TT.rg [0,1] [kx,kp] rfl rfl ?_
          refine DL.chrE (j:=0) rfl rfl rfl rfl rfl rfl (by decide) rfl rfl ?_
          refine DL.pu 30 (.bool false) rfl (p_extract rfl rfl rfl) ?_
          refine DL.nil ?_
          refine TT.sq rfl ?_
          refine TT.cf rfl rfl rfl ?_
          refine TT.exit rfl ?_
          refine TT.sq rfl ?_
          refine TT.rg [0] [kp] rfl rfl ?_
          refine DL.pu 2 (.bool true) rfl (p_assign rfl rfl) ?_
          refine DL.nil ?_
          obtain rfl:=Option.some.inj h168
          exact retnE (rs:=[.tmp 2]) (vs:=[.bool true]) hE22.base Tryz.func92 rfl rfl rfl (res_cons (ResV.tmp rfl) res_nil) rfl
       ·
        by_cases c160 : q148 = true
        ·
         have h161:=ite_true c160 h157
         refine DL.not rfl (Wn.yes c160 rfl rfl rfl rfl) rfl rfl ?_
         refine DL.not rfl (Wn.yes c160 rfl rfl rfl rfl) rfl rfl ?_
         refine DL.not rfl (Wn.yes c160 rfl rfl rfl rfl) rfl rfl ?_
         refine DL.not rfl (Wn.undef rfl rfl rfl) rfl rfl ?_
         refine DL.not rfl (Wn.undef rfl rfl rfl) rfl rfl ?_
         refine DL.not rfl (Wn.undef rfl rfl rfl) rfl rfl ?_
         refine DL.not rfl (Wn.undef rfl rfl rfl) rfl rfl ?_
         refine DL.not rfl (Wn.undef rfl rfl rfl) rfl rfl ?_
         refine DL.not rfl (Wn.yes c160 rfl rfl rfl rfl) rfl rfl ?_
         refine DL.pu 68 (.bool true) rfl (p_pick_t c160 rfl rfl rfl) ?_
         obtain rfl:=Option.some.inj h161
         exact DL.weak J159 (Sub.cons rfl (Sub.cons rfl (Sub.cons rfl (Sub.cons rfl (Sub.cons rfl (Sub.cons rfl (Sub.cons rfl (Sub.cons rfl (Sub.cons rfl (Sub.cons rfl (Sub.cons rfl (Sub.cons rfl (Sub.cons rfl (Sub.cons rfl (Sub.cons rfl (Sub.cons rfl (Sub.cons rfl (Sub.cons rfl (Sub.cons rfl (Sub.cons rfl (Sub.cons rfl (Sub.nil _))))))))))))))))))))))
        ·
         replace c160:=Bool.eq_false_iff.mpr c160
         have h162:=ite_false c160 h157
         refine DL.pure (v:=.int .i32 97) rfl (Wn.no c160 rfl rfl rfl rfl) rfl rfl rfl (p_move rfl rfl) ?_
         refine DL.pure (v:=.bool false) rfl (Wn.no c160 rfl rfl rfl rfl) rfl rfl rfl (show FPure _ _ _ (.bool ((97 : Int) == (100 : Int))) from p_eql rfl rfl rfl) ?_
         refine DL.pure (v:=.bool false) rfl (Wn.no c160 rfl rfl rfl rfl) rfl rfl rfl (p_move rfl rfl) ?_
         refine DL.nt rfl rfl rfl rfl rfl rfl rfl ?_
         refine DL.nt rfl rfl rfl rfl rfl rfl rfl ?_
         refine DL.nt rfl rfl rfl rfl rfl rfl rfl ?_
         refine DL.nt rfl rfl rfl rfl rfl rfl rfl ?_
         refine DL.nt rfl rfl rfl rfl rfl rfl rfl ?_
         refine DL.pure (v:=.bool false) rfl (Wn.no c160 rfl rfl rfl rfl) rfl rfl rfl (p_pick_false rfl rfl rfl) ?_
         refine DL.pu 68 (.bool false) rfl (p_pick_f c160 rfl rfl rfl) ?_
         obtain rfl:=Option.some.inj h162
         exact DL.weak J159 (Sub.cons rfl (Sub.cons rfl (Sub.cons rfl (Sub.cons rfl (Sub.cons rfl (Sub.cons rfl (Sub.cons rfl (Sub.cons rfl (Sub.cons rfl (Sub.cons rfl (Sub.cons rfl (Sub.cons rfl (Sub.cons rfl (Sub.cons rfl (Sub.cons rfl (Sub.cons rfl (Sub.cons rfl (Sub.cons rfl (Sub.cons rfl (Sub.cons rfl (Sub.cons rfl (Sub.nil _))))))))))))))))))))))
      ·
       by_cases c152 : (decide (a0.attr < 0)) = true
       ·
        have h153:=ite_true c152 h149
        refine DL.not rfl (Wn.yes c152 rfl rfl rfl rfl) rfl rfl ?_
        refine DL.not rfl (Wn.yes c152 rfl rfl rfl rfl) rfl rfl ?_
        refine DL.not rfl (Wn.yes c152 rfl rfl rfl rfl) rfl rfl ?_
        refine DL.pure (v:=.bool true) rfl (Wn.some rfl rfl rfl rfl) rfl rfl rfl (p_pick_t c152 rfl rfl rfl) ?_
        obtain rfl:=Option.some.inj h153
        exact DL.weak J151 (Sub.cons rfl (Sub.cons rfl (Sub.cons rfl (Sub.cons rfl (Sub.cons rfl (Sub.cons rfl (Sub.cons rfl (Sub.cons rfl (Sub.cons rfl (Sub.cons rfl (Sub.cons rfl (Sub.cons rfl (Sub.cons rfl (Sub.cons rfl (Sub.cons rfl (Sub.cons rfl (Sub.cons rfl (Sub.cons rfl (Sub.cons rfl (Sub.cons rfl (Sub.cons rfl (Sub.nil _))))))))))))))))))))))
       ·
        replace c152:=Bool.eq_false_iff.mpr c152
        have h154:=ite_false c152 h149
        refine DL.pure (v:=ptr b1 5) rfl (Wn.no c152 rfl rfl rfl rfl) rfl rfl rfl (p_fieldAddr ty_f33_5 rfl rfl) ?_
        refine DL.quiet (v:=.int .i64 a0.attr) rfl (Wn.no c152 rfl rfl rfl rfl) rfl rfl rfl (FImm.quiet (i_loadBoxO (I:=M7) (hx7 _ _ hm_2) rfl ty_a30 rfl rfl) (fun w hc => hE22.imm hc)) ?_
        refine DL.pure (v:=.bool (decide (63 < a0.attr))) rfl (Wn.no c152 rfl rfl rfl rfl) rfl rfl rfl (p_gtr rfl rfl rfl) ?_
        refine DL.pure (v:=.bool (decide (63 < a0.attr))) rfl (Wn.some rfl rfl rfl rfl) rfl rfl rfl (p_pick_f c152 rfl rfl rfl) ?_
        obtain rfl:=Option.some.inj h154
        exact DL.weak J151 (Sub.cons rfl (Sub.cons rfl (Sub.cons rfl (Sub.cons rfl (Sub.cons rfl (Sub.cons rfl (Sub.cons rfl (Sub.cons rfl (Sub.cons rfl (Sub.cons rfl (Sub.cons rfl (Sub.cons rfl (Sub.cons rfl (Sub.cons rfl (Sub.cons rfl (Sub.cons rfl (Sub.cons rfl (Sub.cons rfl (Sub.cons rfl (Sub.cons rfl (Sub.cons rfl (Sub.nil _))))))))))))))))))))))
     replace h44:=(if_neg (by simpa using hs45_5)).symm.trans h44
     by_cases hs45_6 : t42 = [104,116,97,100]
     ·
      subst hs45_6
      replace h44:=(if_pos (by decide)).symm.trans h44
      refine DL.keep (X:=Nat) (u:=fun b => ptr b 0) (H':=fun b => (some b,.stringIter ⟨#[104,116,97,100]⟩ 0) :: []) (fun _ p hp => List.mem_cons_of_mem _ hp) (i:=3) rfl (Wn.none rfl) rfl rfl rfl (f_rangeText (s:=⟨#[104,116,97,100]⟩) (by kernel_rfl : Tryz.prog.underlying 9 = some .string) rfl rfl) ?_
      intro b169
      refine DL.nil ?_
      refine TT.bk rfl ?_
      refine TT.lp rfl ?_
      refine TT.sq rfl ?_
      refine TT.rg [0,1] [kx,kp] rfl rfl ?_
      refine DL.chr (j:=0) (c:=104) (wd:=1) rfl rfl rfl rfl rfl rfl (by decide) (by kernel_rfl) rfl rfl ?_
      refine DL.pu 30 (.bool true) rfl (p_extract rfl rfl rfl) ?_
      refine DL.nil ?_
      refine TT.sq rfl ?_
      refine TT.ct rfl rfl rfl ?_
      refine TT.skip ?_
      refine TT.bk rfl ?_
      refine TT.sq rfl ?_
      refine TT.rg [0,1] [kp,kp] rfl rfl ?_
      refine DL.pu 31 (.int .i32 104) rfl (p_extract rfl rfl rfl) ?_
      refine DL.pu 5 (.int .i32 104) rfl (p_assign rfl rfl) ?_
      refine DL.nil ?_
      refine TT.sq rfl ?_
      refine TT.rg [0,1,2,3,4,5,6,7,8,9,10,11,12,13,14,15,16,17,18,19,20,21,22,23,24,25,26,27,28,29,30,31,32,33,34,35,36] [kp,kp,kp,kp,kq,kp,kp,kp,kq,kp,kp,kp,kp,kp,kp,kp,kp,kq,kp,kp,kp,kq,kp,kp,kp,kp,kp,kp,kp,kp,kp,kq,kp,kp,kp,kp,kp] rfl rfl ?_
      refine DL.mv 32 (.int .i32 104) rfl rfl rfl ?_
      refine DL.pu 33 (.bool false) rfl (show FPure _ _ _ (.bool ((104 : Int) == (116 : Int))) from p_eql rfl rfl rfl) ?_
      refine DL.mv 34 (.bool false) rfl rfl rfl ?_
      refine DL.nt rfl rfl rfl rfl rfl rfl rfl ?_
      refine DL.nt rfl rfl rfl rfl rfl rfl rfl ?_
      refine DL.nt rfl rfl rfl rfl rfl rfl rfl ?_
      refine DL.nt rfl rfl rfl rfl rfl rfl rfl ?_
      refine DL.not rfl (Wn.undef rfl rfl rfl) rfl rfl ?_
      refine DL.not rfl (Wn.undef rfl rfl rfl) rfl rfl ?_
      refine DL.not rfl (Wn.undef rfl rfl rfl) rfl rfl ?_
      refine DL.nt rfl rfl rfl rfl rfl rfl rfl ?_
      refine DL.pu 43 (.bool false) rfl (p_pick_false rfl rfl rfl) ?_
      refine DL.mv 44 (.bool false) rfl rfl rfl ?_
      refine DL.pure (v:=.int .i32 104) rfl (Wn.some rfl rfl rfl rfl) rfl rfl rfl (p_move rfl rfl) ?_
      refine DL.pure (v:=.bool false) rfl (Wn.some rfl rfl rfl rfl) rfl rfl rfl (show FPure _ _ _ (.bool ((104 : Int) == (97 : Int))) from p_eql rfl rfl rfl) ?_
      refine DL.pure (v:=.bool false) rfl (Wn.some rfl rfl rfl rfl) rfl rfl rfl (p_move rfl rfl) ?_
      refine DL.nt rfl rfl rfl rfl rfl rfl rfl ?_
      refine DL.nt rfl rfl rfl rfl rfl rfl rfl ?_
      refine DL.nt rfl rfl rfl rfl rfl rfl rfl ?_
      refine DL.nt rfl rfl rfl rfl rfl rfl rfl ?_
      refine DL.not rfl (Wn.undef rfl rfl rfl) rfl rfl ?_
      refine DL.not rfl (Wn.undef rfl rfl rfl) rfl rfl ?_
      refine DL.not rfl (Wn.undef rfl rfl rfl) rfl rfl ?_
      refine DL.nt rfl rfl rfl rfl rfl rfl rfl ?_
      refine DL.pure (v:=.bool false) rfl (Wn.some rfl rfl rfl rfl) rfl rfl rfl (p_pick_false rfl rfl rfl) ?_
      refine DL.pu 57 (.bool false) rfl (p_pick_false rfl rfl rfl) ?_
      refine DL.mv 58 (.bool false) rfl rfl rfl ?_
      refine DL.pure (v:=.int .i32 104) rfl (Wn.some rfl rfl rfl rfl) rfl rfl rfl (p_move rfl rfl) ?_
      refine DL.pure (v:=.bool false) rfl (Wn.some rfl rfl rfl rfl) rfl rfl rfl (show FPure _ _ _ (.bool ((104 : Int) == (100 : Int))) from p_eql rfl rfl rfl) ?_
      refine DL.pure (v:=.bool false) rfl (Wn.some rfl rfl rfl rfl) rfl rfl rfl (p_move rfl rfl) ?_
      refine DL.nt rfl rfl rfl rfl rfl rfl rfl ?_
      refine DL.nt rfl rfl rfl rfl rfl rfl rfl ?_
      refine DL.nt rfl rfl rfl rfl rfl rfl rfl ?_
      refine DL.nt rfl rfl rfl rfl rfl rfl rfl ?_
      refine DL.nt rfl rfl rfl rfl rfl rfl rfl ?_
      refine DL.pure (v:=.bool false) rfl (Wn.some rfl rfl rfl rfl) rfl rfl rfl (p_pick_false rfl rfl rfl) ?_
      refine DL.pu 68 (.bool false) rfl (p_pick_false rfl rfl rfl) ?_
      refine DL.nil ?_
      refine TT.cf rfl rfl rfl ?_
      refine TT.skip ?_
      refine TT.inBlock ?_
      refine TT.inLoop ?_
      refine TT.sq rfl ?_
      refine TT.rg [0,1] [kx,kp] rfl rfl ?_
      refine DL.chr (j:=0) (c:=116) (wd:=1) rfl rfl rfl rfl rfl rfl (by decide) (by kernel_rfl) rfl rfl ?_
      refine DL.pu 30 (.bool true) rfl (p_extract rfl rfl rfl) ?_
      refine DL.nil ?_
      refine TT.sq rfl ?_
      refine TT.ct rfl rfl rfl ?_
      refine TT.skip ?_
      refine TT.bk rfl ?_
      refine TT.sq rfl ?_
      refine TT.rg [0,1] [kp,kp] rfl rfl ?_
      refine DL.pu 31 (.int .i32 116) rfl (p_extract rfl rfl rfl) ?_
      refine DL.pu 5 (.int .i32 116) rfl (p_assign rfl rfl) ?_
      refine DL.nil ?_
      refine TT.sq rfl ?_
      refine TT.rg [0,1,2,3,4,5,6,7,8,9,10,11,12,13,14,15,16,17,18,19,20,21,22,23,24,25,26,27,28,29,30,31,32,33,34,35,36] [kp,kp,kp,kp,kq,kp,kp,kp,kq,kp,kp,kp,kp,kp,kp,kp,kp,kq,kp,kp,kp,kq,kp,kp,kp,kp,kp,kp,kp,kp,kp,kq,kp,kp,kp,kp,kp] rfl rfl ?_
      refine DL.mv 32 (.int .i32 116) rfl rfl rfl ?_
      refine DL.pu 33 (.bool true) rfl (show FPure _ _ _ (.bool ((116 : Int) == (116 : Int))) from p_eql rfl rfl rfl) ?_
      refine DL.mv 34 (.bool true) rfl rfl rfl ?_
      refine DL.pure (v:=ptr b1 4) rfl (Wn.some rfl rfl rfl rfl) rfl rfl rfl (p_fieldAddr ty_f33_4 rfl rfl) ?_
      refine DL.quiet (v:=.int .i64 a0.typ) rfl (Wn.some rfl rfl rfl rfl) rfl rfl rfl (FImm.quiet (i_loadBoxO (I:=M7) (hx7 _ _ hm_2) rfl ty_a29 rfl rfl) (fun w hc => hE22.imm hc)) ?_
      refine DL.pure (v:=.bool (decide (a0.typ < 1))) rfl (Wn.some rfl rfl rfl rfl) rfl rfl rfl (p_lss rfl rfl rfl) ?_
      refine DL.pure (v:=.bool (decide (a0.typ < 1))) rfl (Wn.some rfl rfl rfl rfl) rfl rfl rfl (p_move rfl rfl) ?_
      obtain ⟨q171,h172,h173⟩:=bind_some h44
      refine DL.cut [(1,ptr b1 0),(3,.int .i64 j3_35),(5,.int .i32 116),(28,ptr b169 0),(34,.bool true),(35,ptr b1 4),(36,.int .i64 a0.typ),(37,.bool (decide (a0.typ < 1))),(38,.bool (decide (a0.typ < 1))),(42,.bool q171)] [11,12,13,14,15,16,17,18,19,20,21,22,23,24,25,26,27,28,29,30,31,32,33,34,35,36] ?_ (fun J174 => ?_)
      ·
       refine DL.pu 43 (.bool q171) rfl (p_pick_true rfl rfl rfl) ?_
       refine DL.mv 44 (.bool q171) rfl rfl rfl ?_
       obtain ⟨q179,h180,h181⟩:=bind_some h173
       refine DL.cut [(1,ptr b1 0),(3,.int .i64 j3_35),(5,.int .i32 116),(28,ptr b169 0),(35,ptr b1 4),(36,.int .i64 a0.typ),(37,.bool (decide (a0.typ < 1))),(38,.bool (decide (a0.typ < 1))),(42,.bool q171),(57,.bool q179)] [26,27,28,29,30,31,32,33,34,35,36] ?_ (fun J182 => ?_)
       ·
        refine DL.mv 58 (.bool q179) rfl rfl rfl ?_
        obtain ⟨q187,h188,h189⟩:=bind_some h181
        refine DL.cut [(1,ptr b1 0),(3,.int .i64 j3_35),(28,ptr b169 0),(35,ptr b1 4),(36,.int .i64 a0.typ),(37,.bool (decide (a0.typ < 1))),(38,.bool (decide (a0.typ < 1))),(42,.bool q171),(68,.bool q187)] [] ?_ (fun J190 => ?_)
        ·
         refine DL.nil ?_
         by_cases c194 : q187 = true
         ·
          have h195:=ite_true c194 h189
          refine TT.ct rfl rfl c194 ?_
          refine TT.sq rfl ?_
          refine TT.rg [0] [kp] rfl rfl ?_
          refine DL.pu 2 (.bool false) rfl (p_assign rfl rfl) ?_
          refine DL.nil ?_
          obtain rfl:=Option.some.inj h195
          exact retnE (rs:=[.tmp 2]) (vs:=[.bool false]) hE22.base Tryz.func92 rfl rfl rfl (res_cons (ResV.tmp rfl) res_nil) rfl
         ·
          replace c194:=Bool.eq_false_iff.mpr c194
          have h196:=ite_false c194 h189
          refine TT.cf rfl rfl c194 ?_
          refine TT.skip ?_
          refine TT.inBlock ?_
          refine TT.inLoop ?_
          refine TT.sq rfl ?_
          refine TT.rg [0,1] [kx,kp] rfl rfl ?_
          refine DL.chr (j:=0) (c:=97) (wd:=1) rfl rfl rfl rfl rfl rfl (by decide) (by kernel_rfl) rfl rfl ?_
          refine DL.pu 30 (.bool true) rfl (p_extract rfl rfl rfl) ?_
          refine DL.nil ?_
          refine TT.sq rfl ?_
          refine TT.ct rfl rfl rfl ?_
          refine TT.skip ?_
          refine TT.bk rfl ?_
          refine TT.sq rfl ?_
          refine TT.rg [0,1] [kp,kp] rfl rfl ?_
          refine DL.pu 31 (.int .i32 97) rfl (p_extract rfl rfl rfl) ?_
          refine DL.pu 5 (.int .i32 97) rfl (p_assign rfl rfl) ?_
          refine DL.nil ?_
          refine TT.sq rfl ?_
          refine TT.rg [0,1,2,3,4,5,6,7,8,9,10,11,12,13,14,15,16,17,18,19,20,21,22,23,24,25,26,27,28,29,30,31,32,33,34,35,36] [kp,kp,kp,kp,kq,kp,kp,kp,kq,kp,kp,kp,kp,kp,kp,kp,kp,kq,kp,kp,kp,kq,kp,kp,kp,kp,kp,kp,kp,kp,kp,kq,kp,kp,kp,kp,kp] rfl rfl ?_
          refine DL.mv 32 (.int .i32 97) rfl rfl rfl ?_
          refine DL.pu 33 (.bool false) rfl (show FPure _ _ _ (.bool ((97 : Int) == (116 : Int))) from p_eql rfl rfl rfl) ?_
          refine DL.mv 34 (.bool false) rfl rfl rfl ?_
          refine DL.nt rfl rfl rfl rfl rfl rfl rfl ?_
          refine DL.nt rfl rfl rfl rfl rfl rfl rfl ?_
          refine DL.nt rfl rfl rfl rfl rfl rfl rfl ?_
          refine DL.nt rfl rfl rfl rfl rfl rfl rfl ?_
          refine DL.not rfl (Wn.undef rfl rfl rfl) rfl rfl ?_
          refine DL.not rfl (Wn.undef rfl rfl rfl) rfl rfl ?_
          refine DL.not rfl (Wn.undef rfl rfl rfl) rfl rfl ?_
          refine DL.nt rfl rfl rfl rfl rfl rfl rfl ?_
          refine DL.pu 43 (.bool false) rfl (p_pick_false rfl rfl rfl) ?_
          refine DL.mv 44 (.bool false) rfl rfl rfl ?_
          refine DL.pure (v:=.int .i32 97) rfl (Wn.some rfl rfl rfl rfl) rfl rfl rfl (p_move rfl rfl) ?_
          refine DL.pure (v:=.bool true) rfl (Wn.some rfl rfl rfl rfl) rfl rfl rfl (show FPure _ _ _ (.bool ((97 : Int) == (97 : Int))) from p_eql rfl rfl rfl) ?_
          refine DL.pure (v:=.bool true) rfl (Wn.some rfl rfl rfl rfl) rfl rfl rfl (p_move rfl rfl) ?_
          refine DL.pure (v:=ptr b1 5) rfl (Wn.some rfl rfl rfl rfl) rfl rfl rfl (p_fieldAddr ty_f33_5 rfl rfl) ?_
          refine DL.quiet (v:=.int .i64 a0.attr) rfl (Wn.some rfl rfl rfl rfl) rfl rfl rfl (FImm.quiet (i_loadBoxO (I:=M7) (hx7 _ _ hm_2) rfl ty_a30 rfl rfl) (fun w hc => hE22.imm hc)) ?_
          refine DL.pure (v:=.bool (decide (a0.attr < 0))) rfl (Wn.some rfl rfl rfl rfl) rfl rfl rfl (p_lss rfl rfl rfl) ?_
          refine DL.pure (v:=.bool (decide (a0.attr < 0))) rfl (Wn.some rfl rfl rfl rfl) rfl rfl rfl (p_move rfl rfl) ?_
          obtain ⟨q198,h199,h200⟩:=bind_some h196
          refine DL.cut [(1,ptr b1 0),(3,.int .i64 j3_35),(5,.int .i32 97),(28,ptr b169 0),(35,undef),(36,undef),(37,undef),(38,undef),(39,undef),(40,undef),(41,undef),(42,undef),(44,.bool false),(45,.int .i32 97),(46,.bool true),(47,.bool true),(48,ptr b1 5),(49,.int .i64 a0.attr),(50,.bool (decide (a0.attr < 0))),(51,.bool (decide (a0.attr < 0))),(55,.bool q198)] [24,25,26,27,28,29,30,31,32,33,34,35,36] ?_ (fun J201 => ?_)
          ·
           refine DL.pure (v:=.bool q198) rfl (Wn.some rfl rfl rfl rfl) rfl rfl rfl (p_pick_true rfl rfl rfl) ?_
           refine DL.pu 57 (.bool q198) rfl (p_pick_false rfl rfl rfl) ?_
           refine DL.mv 58 (.bool q198) rfl rfl rfl ?_
           obtain ⟨q206,h207,h208⟩:=bind_some h200
           refine DL.cut [(1,ptr b1 0),(3,.int .i64 j3_35),(28,ptr b169 0),(35,undef),(36,undef),(37,undef),(38,undef),(39,undef),(40,undef),(41,undef),(42,undef),(45,.int .i32 97),(46,.bool true),(47,.bool true),(48,ptr b1 5),(49,.int .i64 a0.attr),(50,.bool (decide (a0.attr < 0))),(51,.bool (decide (a0.attr < 0))),(55,.bool q198),(56,.bool q198),(68,.bool q206)] [] ?_ (fun J209 => ?_)
           ·
            refine DL.nil ?_
            by_cases c213 : q206 = true
            ·
             have h214:=ite_true c213 h208
             refine TT.ct rfl rfl c213 ?_
             refine TT.sq rfl ?_
             refine TT.rg [0] [kp] rfl rfl ?_
             refine DL.pu 2 (.bool false) rfl (p_assign rfl rfl) ?_
             refine DL.nil ?_
             obtain rfl:=Option.some.inj h214
             exact retnE (rs:=[.tmp 2]) (vs:=[.bool false]) hE22.base Tryz.func92 rfl rfl rfl (res_cons (ResV.tmp rfl) res_nil) rfl
            ·
             replace c213:=Bool.eq_false_iff.mpr c213
             have h215:=ite_false c213 h208
             refine TT.cf rfl rfl c213 ?_
             refine TT.skip ?_
             refine TT.inBlock ?_
             refine TT.inLoop ?_
             refine TT.sq rfl ?_
             refine TT.rg [0,1] [kx,kp] rfl rfl ?_
             refine DL.chr (j:=0) (c:=100) (wd:=1) rfl rfl rfl rfl rfl rfl (by decide) (by kernel_rfl) rfl rfl ?_
             refine DL.pu 30 (.bool true) rfl (p_extract rfl rfl rfl) ?_
             refine DL.nil ?_
             refine TT.sq rfl ?_
             refine TT.ct rfl rfl rfl ?_
             refine TT.skip ?_
             refine TT.bk rfl ?_
             refine TT.sq rfl ?_
             refine TT.rg [0,1] [kp,kp] rfl rfl ?_
             refine DL.pu 31 (.int .i32 100) rfl (p_extract rfl rfl rfl) ?_
             refine DL.pu 5 (.int .i32 100) rfl (p_assign rfl rfl) ?_
             refine DL.nil ?_
             refine TT.sq rfl ?_
             refine TT.rg [0,1,2,3,4,5,6,7,8,9,10,11,12,13,14,15,16,17,18,19,20,21,22,23,24,25,26,27,28,29,30,31,32,33,34,35,36] [kp,kp,kp,kp,kq,kp,kp,kp,kq,kp,kp,kp,kp,kp,kp,kp,kp,kq,kp,kp,kp,kq,kp,kp,kp,kp,kp,kp,kp,kp,kp,kq,kp,kp,kp,kp,kp] rfl rfl ?_
             refine DL.mv 32 (.int .i32 100) rfl rfl rfl ?_
             refine DL.pu 33 (.bool false) rfl (show FPure _ _ _ (.bool ((100 : Int) == (116 : Int))) from p_eql rfl rfl rfl) ?_
             refine DL.mv 34 (.bool false) rfl rfl rfl ?_
             refine DL.nt rfl rfl rfl rfl rfl rfl rfl ?_
             refine DL.nt rfl rfl rfl rfl rfl rfl rfl ?_
             refine DL.nt rfl rfl rfl rfl rfl rfl rfl ?_
             refine DL.nt rfl rfl rfl rfl rfl rfl rfl ?_
             refine DL.not rfl (Wn.undef rfl rfl rfl) rfl rfl ?_
             refine DL.not rfl (Wn.undef rfl rfl rfl) rfl rfl ?_
             refine DL.not rfl (Wn.undef rfl rfl rfl) rfl rfl ?_
             refine DL.nt rfl rfl rfl rfl rfl rfl rfl ?_
             refine DL.pu 43 (.bool false) rfl (p_pick_false rfl rfl rfl) ?_
             refine DL.mv 44 (.bool false) rfl rfl rfl ?_
             refine DL.pure (v:=.int .i32 100) rfl (Wn.some rfl rfl rfl rfl) rfl rfl rfl (p_move rfl rfl) ?_
             refine DL.pure (v:=.bool false) rfl (Wn.some rfl rfl rfl rfl) rfl rfl rfl (show FPure _ _ _ (.bool ((100 : Int) == (97 : Int))) from p_eql rfl rfl rfl) ?_
             refine DL.pure (v:=.bool false) rfl (Wn.some rfl rfl rfl rfl) rfl rfl rfl (p_move rfl rfl) ?_
             refine DL.nt rfl rfl rfl rfl rfl rfl rfl ?_
             refine DL.nt rfl rfl rfl rfl rfl rfl rfl ?_
             refine DL.nt rfl rfl rfl rfl rfl rfl rfl ?_
             refine DL.nt rfl rfl rfl rfl rfl rfl rfl ?_
             refine DL.not rfl (Wn.undef rfl rfl rfl) rfl rfl ?_
             refine DL.not rfl (Wn.undef rfl rfl rfl) rfl rfl ?_
             refine DL.not rfl (Wn.undef rfl rfl rfl) rfl rfl ?_
             refine DL.nt rfl rfl rfl rfl rfl rfl rfl ?_
             refine DL.pure (v:=.bool false) rfl (Wn.some rfl rfl rfl rfl) rfl rfl rfl (p_pick_false rfl rfl rfl) ?_
             refine DL.pu 57 (.bool false) rfl (p_pick_false rfl rfl rfl) ?_
             refine DL.mv 58 (.bool false) rfl rfl rfl ?_
             refine DL.pure (v:=.int .i32 100) rfl (Wn.some rfl rfl rfl rfl) rfl rfl rfl (p_move rfl rfl) ?_
             refine DL.pure (v:=.bool true) rfl (Wn.some rfl rfl rfl rfl) rfl rfl rfl (show FPure _ _ _ (.bool ((100 : Int) == (100 : Int))) from p_eql rfl rfl rfl) ?_
             refine DL.pure (v:=.bool true) rfl (Wn.some rfl rfl rfl rfl) rfl rfl rfl (p_move rfl rfl) ?_
             refine DL.pure (v:=ptr b1 38) rfl (Wn.some rfl rfl rfl rfl) rfl rfl rfl (p_fieldAddr ty_f33_7 rfl rfl) ?_
             refine DL.quiet (v:=a0_38) rfl (Wn.some rfl rfl rfl rfl) rfl rfl rfl (FImm.quiet (i_loadBoxO (I:=M7) (hx7 _ _ hm_2) rfl ty_a31 rfl rfl) (fun w hc => hE22.imm hc)) ?_
             refine DL.pure (v:=.int .i64 (a0.data.length : Int)) rfl (Wn.some rfl rfl rfl rfl) rfl rfl rfl (p_slLen ty_u31 (RowV.sl (IntRow.mono hr_a0_38 (hx2.trans hx7))) rfl rfl) ?_
             refine DL.pure (v:=.int .i64 j3_35) rfl (Wn.some rfl rfl rfl rfl) rfl rfl rfl (p_move rfl rfl) ?_
             refine DL.pure (v:=.bool (decide (j3_35 < (a0.data.length : Int)))) rfl (Wn.some rfl rfl rfl rfl) rfl rfl rfl (p_gtr rfl rfl rfl) ?_
             refine DL.pure (v:=.bool (decide (j3_35 < (a0.data.length : Int)))) rfl (Wn.some rfl rfl rfl rfl) rfl rfl rfl (p_pick_true rfl rfl rfl) ?_
             refine DL.pu 68 (.bool (decide (j3_35 < (a0.data.length : Int)))) rfl (p_pick_false rfl rfl rfl) ?_
             refine DL.nil ?_
             by_cases c216 : (decide (j3_35 < (a0.data.length : Int))) = true
             ·
              have h217:=ite_true c216 h215
              refine TT.ct rfl rfl c216 ?_
              refine TT.sq rfl ?_
              refine TT.rg [0] [kp] rfl rfl ?_
              refine DL.pu 2 (.bool false) rfl (p_assign rfl rfl) ?_
              refine DL.nil ?_
              obtain rfl:=Option.some.inj h217
              exact retnE (rs:=[.tmp 2]) (vs:=[.bool false]) hE22.base Tryz.func92 rfl rfl rfl (res_cons (ResV.tmp rfl) res_nil) rfl
             ·
              replace c216:=Bool.eq_false_iff.mpr c216
              have h218:=ite_false c216 h215
              refine TT.cf rfl rfl c216 ?_
              refine TT.skip ?_
              refine TT.inBlock ?_
              refine TT.inLoop ?_
              refine TT.sq rfl ?_
              refine TT.rg [0,1] [kx,kp] rfl rfl ?_
              refine DL.chrE (j:=0) rfl rfl rfl rfl rfl rfl (by decide) rfl rfl ?_
              refine DL.pu 30 (.bool false) rfl (p_extract rfl rfl rfl) ?_
              refine DL.nil ?_
              refine TT.sq rfl ?_
              refine TT.cf rfl rfl rfl ?_
              refine TT.exit rfl ?_
              refine TT.sq rfl ?_
              refine TT.rg [0] [kp] rfl rfl ?_
              refine DL.pu 2 (.bool true) rfl (p_assign rfl rfl) ?_
              refine DL.nil ?_
              obtain rfl:=Option.some.inj h218
              exact retnE (rs:=[.tmp 2]) (vs:=[.bool true]) hE22.base Tryz.func92 rfl rfl rfl (res_cons (ResV.tmp rfl) res_nil) rfl
           ·
            by_cases c210 : q198 = true
            ·
             have h211:=ite_true c210 h207
             refine DL.not rfl (Wn.yes c210 rfl rfl rfl rfl) rfl rfl ?_
             refine DL.not rfl (Wn.yes c210 rfl rfl rfl rfl) rfl rfl ?_
             refine DL.not rfl (Wn.yes c210 rfl rfl rfl rfl) rfl rfl ?_
             refine DL.not rfl (Wn.undef rfl rfl rfl) rfl rfl ?_
             refine DL.not rfl (Wn.undef rfl rfl rfl) rfl rfl ?_
             refine DL.not rfl (Wn.undef rfl rfl rfl) rfl rfl ?_
             refine DL.not rfl (Wn.undef rfl rfl rfl) rfl rfl ?_
             refine DL.not rfl (Wn.undef rfl rfl rfl) rfl rfl ?_
             refine DL.not rfl (Wn.yes c210 rfl rfl rfl rfl) rfl rfl ?_
             refine DL.pu 68 (.bool true) rfl (p_pick_t c210 rfl rfl rfl) ?_
             obtain rfl:=Option.some.inj h211
             exact DL.weak J209 (Sub.cons rfl (Sub.cons rfl (Sub.cons rfl (Sub.cons rfl (Sub.cons rfl (Sub.cons rfl (Sub.cons rfl (Sub.cons rfl (Sub.cons rfl (Sub.cons rfl (Sub.cons rfl (Sub.cons rfl (Sub.cons rfl (Sub.cons rfl (Sub.cons rfl (Sub.cons rfl (Sub.cons rfl (Sub.cons rfl (Sub.cons rfl (Sub.cons rfl (Sub.cons rfl (Sub.nil _))))))))))))))))))))))
            ·
             replace c210:=Bool.eq_false_iff.mpr c210
             have h212:=ite_false c210 h207
             refine DL.pure (v:=.int .i32 97) rfl (Wn.no c210 rfl rfl rfl rfl) rfl rfl rfl (p_move rfl rfl) ?_
             refine DL.pure (v:=.bool false) rfl (Wn.no c210 rfl rfl rfl rfl) rfl rfl rfl (show FPure _ _ _ (.bool ((97 : Int) == (100 : Int))) from p_eql rfl rfl rfl) ?_
             refine DL.pure (v:=.bool false) rfl (Wn.no c210 rfl rfl rfl rfl) rfl rfl rfl (p_move rfl rfl) ?_
             refine DL.nt rfl rfl rfl rfl rfl rfl rfl ?_
             refine DL.nt rfl rfl rfl rfl rfl rfl rfl ?_
             refine DL.nt rfl rfl rfl rfl rfl rfl rfl ?_
             refine DL.nt rfl rfl rfl rfl rfl rfl rfl ?_
             refine DL.nt rfl rfl rfl rfl rfl rfl rfl ?_
             refine DL.pure (v:=.bool false) rfl (Wn.no c210 rfl rfl rfl rfl) rfl rfl rfl (p_pick_false rfl rfl rfl) ?_
             refine DL.pu 68 (.bool false) rfl (p_pick_f c210 rfl rfl rfl) ?_
             obtain rfl:=Option.some.inj h212
             exact DL.weak J209 (Sub.cons rfl (Sub.cons rfl (Sub.cons rfl (Sub.cons rfl (Sub.cons rfl (Sub.cons rfl (Sub.cons rfl (Sub.cons rfl (Sub.cons rfl (Sub.cons rfl (Sub.cons rfl (Sub.cons rfl (Sub.cons rfl (Sub.cons rfl (Sub.cons rfl (Sub.cons rfl (Sub.cons rfl (Sub.cons rfl (Sub.cons rfl (Sub.cons rfl (Sub.cons rfl (Sub.nil _))))))))))))))))))))))
          ·
           by_cases c202 : (decide (a0.attr < 0)) = true
           ·
            have h203:=ite_true c202 h199
            refine DL.not rfl (Wn.yes c202 rfl rfl rfl rfl) rfl rfl ?_
            refine DL.not rfl (Wn.yes c202 rfl rfl rfl rfl) rfl rfl ?_
            refine DL.not rfl (Wn.yes c202 rfl rfl rfl rfl) rfl rfl ?_
            refine DL.pure (v:=.bool true) rfl (Wn.some rfl rfl rfl rfl) rfl rfl rfl (p_pick_t c202 rfl rfl rfl) ?_
            obtain rfl:=Option.some.inj h203
            exact DL.weak J201 (Sub.cons rfl (Sub.cons rfl (Sub.cons rfl (Sub.cons rfl (Sub.cons rfl (Sub.cons rfl (Sub.cons rfl (Sub.cons rfl (Sub.cons rfl (Sub.cons rfl (Sub.cons rfl (Sub.cons rfl (Sub.cons rfl (Sub.cons rfl (Sub.cons rfl (Sub.cons rfl (Sub.cons rfl (Sub.cons rfl (Sub.cons rfl (Sub.cons rfl (Sub.cons rfl (Sub.nil _))))))))))))))))))))))
           ·
            replace c202:=Bool.eq_false_iff.mpr c202
            have h204:=ite_false c202 h199
            refine DL.pure (v:=ptr b1 5) rfl (Wn.no c202 rfl rfl rfl rfl) rfl rfl rfl (p_fieldAddr ty_f33_5 rfl rfl) ?_
            refine DL.quiet (v:=.int .i64 a0.attr) rfl (Wn.no c202 rfl rfl rfl rfl) rfl rfl rfl (FImm.quiet (i_loadBoxO (I:=M7) (hx7 _ _ hm_2) rfl ty_a30 rfl rfl) (fun w hc => hE22.imm hc)) ?_
            refine DL.pure (v:=.bool (decide (63 < a0.attr))) rfl (Wn.no c202 rfl rfl rfl rfl) rfl rfl rfl (p_gtr rfl rfl rfl) ?_
            refine DL.pure (v:=.bool (decide (63 < a0.attr))) rfl (Wn.some rfl rfl rfl rfl) rfl rfl rfl (p_pick_f c202 rfl rfl rfl) ?_
            obtain rfl:=Option.some.inj h204
            exact DL.weak J201 (Sub.cons rfl (Sub.cons rfl (Sub.cons rfl (Sub.cons rfl (Sub.cons rfl (Sub.cons rfl (Sub.cons rfl (Sub.cons rfl (Sub.cons rfl (Sub.cons rfl (Sub.cons rfl (Sub.cons rfl (Sub.cons rfl (Sub.cons rfl (Sub.cons rfl (Sub.cons rfl (Sub.cons rfl (Sub.cons rfl (Sub.cons rfl (Sub.cons rfl (Sub.cons rfl (Sub.nil _))))))))))))))))))))))
        ·
         by_cases c191 : q179 = true
         ·
          have h192:=ite_true c191 h188
          refine DL.not rfl (Wn.yes c191 rfl rfl rfl rfl) rfl rfl ?_
          refine DL.not rfl (Wn.yes c191 rfl rfl rfl rfl) rfl rfl ?_
          refine DL.not rfl (Wn.yes c191 rfl rfl rfl rfl) rfl rfl ?_
          refine DL.not rfl (Wn.undef rfl rfl rfl) rfl rfl ?_
          refine DL.not rfl (Wn.undef rfl rfl rfl) rfl rfl ?_
          refine DL.not rfl (Wn.undef rfl rfl rfl) rfl rfl ?_
          refine DL.not rfl (Wn.undef rfl rfl rfl) rfl rfl ?_
          refine DL.not rfl (Wn.undef rfl rfl rfl) rfl rfl ?_
          refine DL.not rfl (Wn.yes c191 rfl rfl rfl rfl) rfl rfl ?_
          refine DL.pu 68 (.bool true) rfl (p_pick_t c191 rfl rfl rfl) ?_
          obtain rfl:=Option.some.inj h192
          exact DL.weak J190 (Sub.cons rfl (Sub.cons rfl (Sub.cons rfl (Sub.cons rfl (Sub.cons rfl (Sub.cons rfl (Sub.cons rfl (Sub.cons rfl (Sub.cons rfl (Sub.nil _))))))))))
         ·
          replace c191:=Bool.eq_false_iff.mpr c191
          have h193:=ite_false c191 h188
          refine DL.pure (v:=.int .i32 116) rfl (Wn.no c191 rfl rfl rfl rfl) rfl rfl rfl (p_move rfl rfl) ?_
          refine DL.pure (v:=.bool false) rfl (Wn.no c191 rfl rfl rfl rfl) rfl rfl rfl (show FPure _ _ _ (.bool ((116 : Int) == (100 : Int))) from p_eql rfl rfl rfl) ?_
          refine DL.pure (v:=.bool false) rfl (Wn.no c191 rfl rfl rfl rfl) rfl rfl rfl (p_move rfl rfl) ?_
          refine DL.nt rfl rfl rfl rfl rfl rfl rfl ?_
          refine DL.nt rfl rfl rfl rfl rfl rfl rfl ?_
          refine DL.nt rfl rfl rfl rfl rfl rfl rfl ?_
          refine DL.nt rfl rfl rfl rfl rfl rfl rfl ?_
          refine DL.nt rfl rfl rfl rfl rfl rfl rfl ?_
          refine DL.pure (v:=.bool false) rfl (Wn.no c191 rfl rfl rfl rfl) rfl rfl rfl (p_pick_false rfl rfl rfl) ?_
          refine DL.pu 68 (.bool false) rfl (p_pick_f c191 rfl rfl rfl) ?_
          obtain rfl:=Option.some.inj h193
          exact DL.weak J190 (Sub.cons rfl (Sub.cons rfl (Sub.cons rfl (Sub.cons rfl (Sub.cons rfl (Sub.cons rfl (Sub.cons rfl (Sub.cons rfl (Sub.cons rfl (Sub.nil _))))))))))
       ·
        by_cases c183 : q171 = true
        ·
         have h184:=ite_true c183 h180
         refine DL.not rfl (Wn.yes c183 rfl rfl rfl rfl) rfl rfl ?_
         refine DL.not rfl (Wn.yes c183 rfl rfl rfl rfl) rfl rfl ?_
         refine DL.not rfl (Wn.yes c183 rfl rfl rfl rfl) rfl rfl ?_
         refine DL.not rfl (Wn.undef rfl rfl rfl) rfl rfl ?_
         refine DL.not rfl (Wn.undef rfl rfl rfl) rfl rfl ?_
         refine DL.not rfl (Wn.undef rfl rfl rfl) rfl rfl ?_
         refine DL.not rfl (Wn.undef rfl rfl rfl) rfl rfl ?_
         refine DL.not rfl (Wn.undef rfl rfl rfl) rfl rfl ?_
         refine DL.not rfl (Wn.undef rfl rfl rfl) rfl rfl ?_
         refine DL.not rfl (Wn.undef rfl rfl rfl) rfl rfl ?_
         refine DL.not rfl (Wn.undef rfl rfl rfl) rfl rfl ?_
         refine DL.not rfl (Wn.yes c183 rfl rfl rfl rfl) rfl rfl ?_
         refine DL.pu 57 (.bool true) rfl (p_pick_t c183 rfl rfl rfl) ?_
         obtain rfl:=Option.some.inj h184
         exact DL.weak J182 (Sub.cons rfl (Sub.cons rfl (Sub.cons rfl (Sub.cons rfl (Sub.cons rfl (Sub.cons rfl (Sub.cons rfl (Sub.cons rfl (Sub.cons rfl (Sub.cons rfl (Sub.nil _)))))))))))
        ·
         replace c183:=Bool.eq_false_iff.mpr c183
         have h185:=ite_false c183 h180
         refine DL.pure (v:=.int .i32 116) rfl (Wn.no c183 rfl rfl rfl rfl) rfl rfl rfl (p_move rfl rfl) ?_
         refine DL.pure (v:=.bool false) rfl (Wn.no c183 rfl rfl rfl rfl) rfl rfl rfl (show FPure _ _ _ (.bool ((116 : Int) == (97 : Int))) from p_eql rfl rfl rfl) ?_
         refine DL.pure (v:=.bool false) rfl (Wn.no c183 rfl rfl rfl rfl) rfl rfl rfl (p_move rfl rfl) ?_
         refine DL.nt rfl rfl rfl rfl rfl rfl rfl ?_
         refine DL.nt rfl rfl rfl rfl rfl rfl rfl ?_
         refine DL.nt rfl rfl rfl rfl rfl rfl rfl ?_
         refine DL.nt rfl rfl rfl rfl rfl rfl rfl ?_
         refine DL.not rfl (Wn.undef rfl rfl rfl) rfl rfl ?_
         refine DL.not rfl (Wn.undef rfl rfl rfl) rfl rfl ?_
         refine DL.not rfl (Wn.undef rfl rfl rfl) rfl rfl ?_
         refine DL.nt rfl rfl rfl rfl rfl rfl rfl ?_
         refine DL.pure (v:=.bool false) rfl (Wn.no c183 rfl rfl rfl rfl) rfl rfl rfl (p_pick_false rfl rfl rfl) ?_
         refine DL.pu 57 (.bool false) rfl (p_pick_f c183 rfl rfl rfl) ?_
         obtain rfl:=Option.some.inj h185
         exact DL.weak J182 (Sub.cons rfl (Sub.cons rfl (Sub.cons rfl (Sub.cons rfl (Sub.cons rfl (Sub.cons rfl (Sub.cons rfl (Sub.cons rfl (Sub.cons rfl (Sub.cons rfl (Sub.nil _)))))))))))
      ·
       by_cases c175 : (decide (a0.typ < 1)) = true
       ·
        have h176:=ite_true c175 h172
        refine DL.not rfl (Wn.yes c175 rfl rfl rfl rfl) rfl rfl ?_
        refine DL.not rfl (Wn.yes c175 rfl rfl rfl rfl) rfl rfl ?_
        refine DL.not rfl (Wn.yes c175 rfl rfl rfl rfl) rfl rfl ?_
        refine DL.pure (v:=.bool true) rfl (Wn.some rfl rfl rfl rfl) rfl rfl rfl (p_pick_t c175 rfl rfl rfl) ?_
        obtain rfl:=Option.some.inj h176
        exact DL.weak J174 (Sub.cons rfl (Sub.cons rfl (Sub.cons rfl (Sub.cons rfl (Sub.cons rfl (Sub.cons rfl (Sub.cons rfl (Sub.cons rfl (Sub.cons rfl (Sub.cons rfl (Sub.nil _)))))))))))
       ·
        replace c175:=Bool.eq_false_iff.mpr c175
        have h177:=ite_false c175 h172
        refine DL.pure (v:=ptr b1 4) rfl (Wn.no c175 rfl rfl rfl rfl) rfl rfl rfl (p_fieldAddr ty_f33_4 rfl rfl) ?_
        refine DL.quiet (v:=.int .i64 a0.typ) rfl (Wn.no c175 rfl rfl rfl rfl) rfl rfl rfl (FImm.quiet (i_loadBoxO (I:=M7) (hx7 _ _ hm_2) rfl ty_a29 rfl rfl) (fun w hc => hE22.imm hc)) ?_
        refine DL.pure (v:=.bool (decide (3 < a0.typ))) rfl (Wn.no c175 rfl rfl rfl rfl) rfl rfl rfl (p_gtr rfl rfl rfl) ?_
        refine DL.pure (v:=.bool (decide (3 < a0.typ))) rfl (Wn.some rfl rfl rfl rfl) rfl rfl rfl (p_pick_f c175 rfl rfl rfl) ?_
        obtain rfl:=Option.some.inj h177
        exact DL.weak J174 (Sub.cons rfl (Sub.cons rfl (Sub.cons rfl (Sub.cons rfl (Sub.cons rfl (Sub.cons rfl (Sub.cons rfl (Sub.cons rfl (Sub.cons rfl (Sub.cons rfl (Sub.nil _)))))))))))
     replace h44:=(if_neg (by simpa using hs45_6)).symm.trans h44
     by_cases hs45_7 : t42 = [104,97]
     ·
      subst hs45_7
      replace h44:=(if_pos (by decide)).symm.trans h44
      refine DL.keep (X:=Nat) (u:=fun b => ptr b 0) (H':=fun b => (some b,.stringIter ⟨#[104,97]⟩ 0) :: []) (fun _ p hp => List.mem_cons_of_mem _ hp) (i:=3) rfl (Wn.none rfl) rfl rfl rfl (f_rangeText (s:=⟨#[104,97]⟩) (by kernel_rfl : Tryz.prog.underlying 9 = some .string) rfl rfl) ?_
      intro b219
      refine DL.nil ?_
      refine TT.bk rfl ?_
      refine TT.lp rfl ?_
      refine TT.sq rfl ?_
      refine TT.rg [0,1] [kx,kp] rfl rfl ?_
      refine DL.chr (j:=0) (c:=104) (wd:=1) rfl rfl rfl rfl rfl rfl (by decide) (by kernel_rfl) rfl rfl ?_
      refine DL.pu 30 (.bool true) rfl (p_extract rfl rfl rfl) ?_
      refine DL.nil ?_
      refine TT.sq rfl ?_
      refine TT.ct rfl rfl rfl ?_
      refine TT.skip ?_
      refine TT.bk rfl ?_
      refine TT.sq rfl ?_
      refine TT.rg [0,1] [kp,kp] rfl rfl ?_
      refine DL.pu 31 (.int .i32 104) rfl (p_extract rfl rfl rfl) ?_
      refine DL.pu 5 (.int .i32 104) rfl (p_assign rfl rfl) ?_
      refine DL.nil ?_
      refine TT.sq rfl ?_
      refine TT.rg [0,1,2,3,4,5,6,7,8,9,10,11,12,13,14,15,16,17,18,19,20,21,22,23,24,25,26,27,28,29,30,31,32,33,34,35,36] [kp,kp,kp,kp,kq,kp,kp,kp,kq,kp,kp,kp,kp,kp,kp,kp,kp,kq,kp,kp,kp,kq,kp,kp,kp,kp,kp,kp,kp,kp,kp,kq,kp,kp,kp,kp,kp] rfl rfl ?_
      refine DL.mv 32 (.int .i32 104) rfl rfl rfl ?_
      refine DL.pu 33 (.bool false) rfl (show FPure _ _ _ (.bool ((104 : Int) == (116 : Int))) from p_eql rfl rfl rfl) ?_
      refine DL.mv 34 (.bool false) rfl rfl rfl ?_
      refine DL.nt rfl rfl rfl rfl rfl rfl rfl ?_
      refine DL.nt rfl rfl rfl rfl rfl rfl rfl ?_
      refine DL.nt rfl rfl rfl rfl rfl rfl rfl ?_
      refine DL.nt rfl rfl rfl rfl rfl rfl rfl ?_
      refine DL.not rfl (Wn.undef rfl rfl rfl) rfl rfl ?_
      refine DL.not rfl (Wn.undef rfl rfl rfl) rfl rfl ?_
      refine DL.not rfl (Wn.undef rfl rfl rfl) rfl rfl ?_
      refine DL.nt rfl rfl rfl rfl rfl rfl rfl ?_
      refine DL.pu 43 (.bool false) rfl (p_pick_false rfl rfl rfl) ?_
      refine DL.mv 44 (.bool false) rfl rfl rfl ?_
      refine DL.pure (v:=.int .i32 104) rfl (Wn.some rfl rfl rfl rfl) rfl rfl rfl (p_move rfl rfl) ?_
      refine DL.pure (v:=.bool false) rfl (Wn.some rfl rfl rfl rfl) rfl rfl rfl (show FPure _ _ _ (.bool ((104 : Int) == (97 : Int))) from p_eql rfl rfl rfl) ?_
      refine DL.pure (v:=.bool false) rfl (Wn.some rfl rfl rfl rfl) rfl rfl rfl (p_move rfl rfl) ?_
      refine DL.nt rfl rfl rfl rfl rfl rfl rfl ?_
      refine DL.nt rfl rfl rfl rfl rfl rfl rfl ?_
      refine DL.nt rfl rfl rfl rfl rfl rfl rfl ?_
      refine DL.nt rfl rfl rfl rfl rfl rfl rfl ?_
      refine DL.not rfl (Wn.undef rfl rfl rfl) rfl rfl ?_
      refine DL.not rfl (Wn.undef rfl rfl rfl) rfl rfl ?_
      refine DL.not rfl (Wn.undef rfl rfl rfl) rfl rfl ?_
      refine DL.nt rfl rfl rfl rfl rfl rfl rfl ?_
      refine DL.pure (v:=.bool false) rfl (Wn.some rfl rfl rfl rfl) rfl rfl rfl (p_pick_false rfl rfl rfl) ?_
      refine DL.pu 57 (.bool false) rfl (p_pick_false rfl rfl rfl) ?_
      refine DL.mv 58 (.bool false) rfl rfl rfl ?_
      refine DL.pure (v:=.int .i32 104) rfl (Wn.some rfl rfl rfl rfl) rfl rfl rfl (p_move rfl rfl) ?_
      refine DL.pure (v:=.bool false) rfl (Wn.some rfl rfl rfl rfl) rfl rfl rfl (show FPure _ _ _ (.bool ((104 : Int) == (100 : Int))) from p_eql rfl rfl rfl) ?_
      refine DL.pure (v:=.bool false) rfl (Wn.some rfl rfl rfl rfl) rfl rfl rfl (p_move rfl rfl) ?_
      refine DL.nt rfl rfl rfl rfl rfl rfl rfl ?_
      refine DL.nt rfl rfl rfl rfl rfl rfl rfl ?_
      refine DL.nt rfl rfl rfl rfl rfl rfl rfl ?_
      refine DL.nt rfl rfl rfl rfl rfl rfl rfl ?_
      refine DL.nt rfl rfl rfl rfl rfl rfl rfl ?_
      refine DL.pure (v:=.bool false) rfl (Wn.some rfl rfl rfl rfl) rfl rfl rfl (p_pick_false rfl rfl rfl) ?_
      refine DL.pu 68 (.bool false) rfl (p_pick_false rfl rfl rfl) ?_
      refine DL.nil ?_
      refine TT.cf rfl rfl rfl ?_
      refine TT.skip ?_
      refine TT.inBlock ?_
      refine TT.inLoop ?_
      refine TT.sq rfl ?_
      refine TT.rg [0,1] [kx,kp] rfl rfl ?_
      refine DL.chr (j:=0) (c:=97) (wd:=1) rfl rfl rfl rfl rfl rfl (by decide) (by kernel_rfl) rfl rfl ?_
      refine DL.pu 30 (.bool true) rfl (p_extract rfl rfl rfl) ?_
      refine DL.nil ?_
      refine TT.sq rfl ?_
      refine TT.ct rfl rfl rfl ?_
      refine TT.skip ?_
      refine TT.bk rfl ?_
      refine TT.sq rfl ?_
      refine TT.rg [0,1] [kp,kp] rfl rfl ?_
      refine DL.pu 31 (.int .i32 97) rfl (p_extract rfl rfl rfl) ?_
      refine DL.pu 5 (.int .i32 97) rfl (p_assign rfl rfl) ?_
      refine DL.nil ?_
      refine TT.sq rfl ?_
      refine TT.rg [0,1,2,3,4,5,6,7,8,9,10,11,12,13,14,15,16,17,18,19,20,21,22,23,24,25,26,27,28,29,30,31,32,33,34,35,36] [kp,kp,kp,kp,kq,kp,kp,kp,kq,kp,kp,kp,kp,kp,kp,kp,kp,kq,kp,kp,kp,kq,kp,kp,kp,kp,kp,kp,kp,kp,kp,kq,kp,kp,kp,kp,kp] rfl rfl ?_
      refine DL.mv 32 (.int .i32 97) rfl rfl rfl ?_
      refine DL.pu 33 (.bool false) rfl (show FPure _ _ _ (.bool ((97 : Int) == (116 : Int))) from p_eql rfl rfl rfl) ?_
      refine DL.mv 34 (.bool false) rfl rfl rfl ?_
      refine DL.nt rfl rfl rfl rfl rfl rfl rfl ?_
      refine DL.nt rfl rfl rfl rfl rfl rfl rfl ?_
      refine DL.nt rfl rfl rfl rfl rfl rfl rfl ?_
      refine DL.nt rfl rfl rfl rfl rfl rfl rfl ?_
      refine DL.not rfl (Wn.undef rfl rfl rfl) rfl rfl ?_
      refine DL.not rfl (Wn.undef rfl rfl rfl) rfl rfl ?_
      refine DL.not rfl (Wn.undef rfl rfl rfl) rfl rfl ?_
      refine DL.nt rfl rfl rfl rfl rfl rfl rfl ?_
      refine DL.pu 43 (.bool false) rfl (p_pick_false rfl rfl rfl) ?_
      refine DL.mv 44 (.bool false) rfl rfl rfl ?_
      refine DL.pure (v:=.int .i32 97) rfl (Wn.some rfl rfl rfl rfl) rfl rfl rfl (p_move rfl rfl) ?_
      refine DL.pure (v:=.bool true) rfl (Wn.some rfl rfl rfl rfl) rfl rfl rfl (show FPure _ _ _ (.bool ((97 : Int) == (97 : Int))) from p_eql rfl rfl rfl) ?_
      refine DL.pure (v:=.bool true) rfl (Wn.some rfl rfl rfl rfl) rfl rfl rfl (p_move rfl rfl) ?_
      refine DL.pure (v:=ptr b1 5) rfl (Wn.some rfl rfl rfl rfl) rfl rfl rfl (p_fieldAddr ty_f33_5 rfl rfl) ?_
      refine DL.quiet (v:=.int .i64 a0.attr) rfl (Wn.some rfl rfl rfl rfl) rfl rfl rfl (FImm.quiet (i_loadBoxO (I:=M7) (hx7 _ _ hm_2) rfl ty_a30 rfl rfl) (fun w hc => hE22.imm hc)) ?_
      refine DL.pure (v:=.bool (decide (a0.attr < 0))) rfl (Wn.some rfl rfl rfl rfl) rfl rfl rfl (p_lss rfl rfl rfl) ?_
      refine DL.pure (v:=.bool (decide (a0.attr < 0))) rfl (Wn.some rfl rfl rfl rfl) rfl rfl rfl (p_move rfl rfl) ?_
      obtain ⟨q221,h222,h223⟩:=bind_some h44
      refine DL.cut [(1,ptr b1 0),(3,.int .i64 j3_35),(5,.int .i32 97),(28,ptr b219 0),(35,undef),(36,undef),(37,undef),(38,undef),(39,undef),(40,undef),(41,undef),(42,undef),(44,.bool false),(45,.int .i32 97),(46,.bool true),(47,.bool true),(48,ptr b1 5),(49,.int .i64 a0.attr),(50,.bool (decide (a0.attr < 0))),(51,.bool (decide (a0.attr < 0))),(55,.bool q221)] [24,25,26,27,28,29,30,31,32,33,34,35,36] ?_ (fun J224 => ?_)
      ·
       refine DL.pure (v:=.bool q221) rfl (Wn.some rfl rfl rfl rfl) rfl rfl rfl (p_pick_true rfl rfl rfl) ?_
       refine DL.pu 57 (.bool q221) rfl (p_pick_false rfl rfl rfl) ?_
       refine DL.mv 58 (.bool q221) rfl rfl rfl ?_
       obtain ⟨q229,h230,h231⟩:=bind_some h223
       refine DL.cut [(1,ptr b1 0),(3,.int .i64 j3_35),(28,ptr b219 0),(35,undef),(36,undef),(37,undef),(38,undef),(39,undef),(40,undef),(41,undef),(42,undef),(45,.int .i32 97),(46,.bool true),(47,.bool true),(48,ptr b1 5),(49,.int .i64 a0.attr),(50,.bool (decide (a0.attr < 0))),(51,.bool (decide (a0.attr < 0))),(55,.bool q221),(56,.bool q221),(68,.bool q229)] [] ?_ (fun J232 => ?_)
       ·
        refine DL.nil ?_
        by_cases c236 : q229 = true
        ·
         have h237:=ite_true c236 h231
         refine TT.ct rfl rfl c236 ?_
         refine TT.sq rfl ?_
         refine TT.rg [0] [kp] rfl rfl ?_
         refine DL.pu 2 (.bool false) rfl (p_assign rfl rfl) ?_
         refine DL.nil ?_
         obtain rfl:=Option.some.inj h237
         exact retnE (rs:=[.tmp 2]) (vs:=[.bool false]) hE22.base Tryz.func92 rfl rfl rfl (res_cons (ResV.tmp rfl) res_nil) rfl
        ·
         replace c236:=Bool.eq_false_iff.mpr c236
         have h238:=ite_false c236 h231
         refine TT.cf rfl rfl c236 ?_
         refine TT.skip ?_
         refine TT.inBlock ?_
         refine TT.inLoop ?_
         refine TT.sq rfl ?_
         refine TT.rg [0,1] [kx,kp] rfl rfl ?_
         refine DL.chrE (j:=0) rfl rfl rfl rfl rfl rfl (by decide) rfl rfl ?_
         refine DL.pu 30 (.bool false) rfl (p_extract rfl rfl rfl) ?_
         refine DL.nil ?_
         refine TT.sq rfl ?_
         refine TT.cf rfl rfl rfl ?_
         refine TT.exit rfl ?_
         refine TT.sq rfl ?_
         refine TT.rg [0] [kp] rfl rfl ?_
         refine DL.pu 2 (.bool true) rfl (p_assign rfl rfl) ?_
         refine DL.nil ?_
         obtain rfl:=Option.some.inj h238
         exact retnE (rs:=[.tmp 2]) (vs:=[.bool true]) hE22.base Tryz.func92 rfl rfl rfl (res_cons (ResV.tmp rfl) res_nil) rfl
       ·
        by_cases c233 : q221 = true
        ·
         have h234:=ite_true c233 h230
         refine DL.not rfl (Wn.yes c233 rfl rfl rfl rfl) rfl rfl ?_
         refine DL.not rfl (Wn.yes c233 rfl rfl rfl rfl) rfl rfl ?_
         refine DL.not rfl (Wn.yes c233 rfl rfl rfl rfl) rfl rfl ?_
         refine DL.not rfl (Wn.undef rfl rfl rfl) rfl rfl ?_
         refine DL.not rfl (Wn.undef rfl rfl rfl) rfl rfl ?_
         refine DL.not rfl (Wn.undef rfl rfl rfl) rfl rfl ?_
         refine DL.not rfl (Wn.undef rfl rfl rfl) rfl rfl ?_
         refine DL.not rfl (Wn.undef rfl rfl rfl) rfl rfl ?_
         refine DL.not rfl (Wn.yes c233 rfl rfl rfl rfl) rfl rfl ?_
         refine DL.pu 68 (.bool true) rfl (p_pick_t c233 rfl rfl rfl) ?_
         obtain rfl:=Option.some.inj h234
         exact DL.weak J232 (Sub.cons rfl (Sub.cons rfl (Sub.cons rfl (Sub.cons rfl (Sub.cons rfl (Sub.cons rfl (Sub.cons rfl (Sub.cons rfl (Sub.cons rfl (Sub.cons rfl (Sub.cons rfl (Sub.cons rfl (Sub.cons rfl (Sub.cons rfl (Sub.cons rfl (Sub.cons rfl (Sub.cons rfl (Sub.cons rfl (Sub.cons rfl (Sub.cons rfl (Sub.cons rfl (Sub.nil _))))))))))))))))))))))
        ·
         replace c233:=Bool.eq_false_iff.mpr c233
         have h235:=ite_false c233 h230
         refine DL.pure (v:=.int .i32 97) rfl (Wn.no c233 rfl rfl rfl rfl) rfl rfl rfl (p_move rfl rfl) ?_
         refine DL.pure (v:=.bool false) rfl (Wn.no c233 rfl rfl rfl rfl) rfl rfl rfl (show FPure _ _ _ (.bool ((97 : Int) == (100 : Int))) from p_eql rfl rfl rfl) ?_
         refine DL.pure (v:=.bool false) rfl (Wn.no c233 rfl rfl rfl rfl) rfl rfl rfl (p_move rfl rfl) ?_
         refine DL.nt rfl rfl rfl rfl rfl rfl rfl ?_
         refine DL.nt rfl rfl rfl rfl rfl rfl rfl ?_
         refine DL.nt rfl rfl rfl rfl rfl rfl rfl ?_
         refine DL.nt rfl rfl rfl rfl rfl rfl rfl ?_
         refine DL.nt rfl rfl rfl rfl rfl rfl rfl ?_
         refine DL.pure (v:=.bool false) rfl (Wn.no c233 rfl rfl rfl rfl) rfl rfl rfl (p_pick_false rfl rfl rfl) ?_
         refine DL.pu 68 (.bool false) rfl (p_pick_f c233 rfl rfl rfl) ?_
         obtain rfl:=Option.some.inj h235
         exact DL.weak J232 (Sub.cons rfl (Sub.cons rfl (Sub.cons rfl (Sub.cons rfl (Sub.cons rfl (Sub.cons rfl (Sub.cons rfl (Sub.cons rfl (Sub.cons rfl (Sub.cons rfl (Sub.cons rfl (Sub.cons rfl (Sub.cons rfl (Sub.cons rfl (Sub.cons rfl (Sub.cons rfl (Sub.cons rfl (Sub.cons rfl (Sub.cons rfl (Sub.cons rfl (Sub.cons rfl (Sub.nil _))))))))))))))))))))))
      ·
       by_cases c225 : (decide (a0.attr < 0)) = true
       ·
        have h226:=ite_true c225 h222
        refine DL.not rfl (Wn.yes c225 rfl rfl rfl rfl) rfl rfl ?_
        refine DL.not rfl (Wn.yes c225 rfl rfl rfl rfl) rfl rfl ?_
        refine DL.not rfl (Wn.yes c225 rfl rfl rfl rfl) rfl rfl ?_
        refine DL.pure (v:=.bool true) rfl (Wn.some rfl rfl rfl rfl) rfl rfl rfl (p_pick_t c225 rfl rfl rfl) ?_
        obtain rfl:=Option.some.inj h226
        exact DL.weak J224 (Sub.cons rfl (Sub.cons rfl (Sub.cons rfl (Sub.cons rfl (Sub.cons rfl (Sub.cons rfl (Sub.cons rfl (Sub.cons rfl (Sub.cons rfl (Sub.cons rfl (Sub.cons rfl (Sub.cons rfl (Sub.cons rfl (Sub.cons rfl (Sub.cons rfl (Sub.cons rfl (Sub.cons rfl (Sub.cons rfl (Sub.cons rfl (Sub.cons rfl (Sub.cons rfl (Sub.nil _))))))))))))))))))))))
       ·
        replace c225:=Bool.eq_false_iff.mpr c225
        have h227:=ite_false c225 h222
        refine DL.pure (v:=ptr b1 5) rfl (Wn.no c225 rfl rfl rfl rfl) rfl rfl rfl (p_fieldAddr ty_f33_5 rfl rfl) ?_
        refine DL.quiet (v:=.int .i64 a0.attr) rfl (Wn.no c225 rfl rfl rfl rfl) rfl rfl rfl (FImm.quiet (i_loadBoxO (I:=M7) (hx7 _ _ hm_2) rfl ty_a30 rfl rfl) (fun w hc => hE22.imm hc)) ?_
        refine DL.pure (v:=.bool (decide (63 < a0.attr))) rfl (Wn.no c225 rfl rfl rfl rfl) rfl rfl rfl (p_gtr rfl rfl rfl) ?_
        refine DL.pure (v:=.bool (decide (63 < a0.attr))) rfl (Wn.some rfl rfl rfl rfl) rfl rfl rfl (p_pick_f c225 rfl rfl rfl) ?_
        obtain rfl:=Option.some.inj h227
        exact DL.weak J224 (Sub.cons rfl (Sub.cons rfl (Sub.cons rfl (Sub.cons rfl (Sub.cons rfl (Sub.cons rfl (Sub.cons rfl (Sub.cons rfl (Sub.cons rfl (Sub.cons rfl (Sub.cons rfl (Sub.cons rfl (Sub.cons rfl (Sub.cons rfl (Sub.cons rfl (Sub.cons rfl (Sub.cons rfl (Sub.cons rfl (Sub.cons rfl (Sub.cons rfl (Sub.cons rfl (Sub.nil _))))))))))))))))))))))
     replace h44:=(if_neg (by simpa using hs45_7)).symm.trans h44
     by_cases hs45_8 : t42 = zU
     ·
      subst hs45_8
      replace h44:=(if_pos (by decide)).symm.trans h44
      refine DL.keep (X:=Nat) (u:=fun b => ptr b 0) (H':=fun b => (some b,.stringIter ⟨#[]⟩ 0) :: []) (fun _ p hp => List.mem_cons_of_mem _ hp) (i:=3) rfl (Wn.none rfl) rfl rfl rfl (f_rangeText (s:=⟨#[]⟩) (by kernel_rfl : Tryz.prog.underlying 9 = some .string) rfl rfl) ?_
      intro b239
      refine DL.nil ?_
      refine TT.bk rfl ?_
      refine TT.lp rfl ?_
      refine TT.sq rfl ?_
      refine TT.rg [0,1] [kx,kp] rfl rfl ?_
      refine DL.chrE (j:=0) rfl rfl rfl rfl rfl rfl (by decide) rfl rfl ?_
      refine DL.pu 30 (.bool false) rfl (p_extract rfl rfl rfl) ?_
      refine DL.nil ?_
      refine TT.sq rfl ?_
      refine TT.cf rfl rfl rfl ?_
      refine TT.exit rfl ?_
      refine TT.sq rfl ?_
      refine TT.rg [0] [kp] rfl rfl ?_
      refine DL.pu 2 (.bool true) rfl (p_assign rfl rfl) ?_
      refine DL.nil ?_
      obtain rfl:=Option.some.inj h44
      exact retnE (rs:=[.tmp 2]) (vs:=[.bool true]) hE22.base Tryz.func92 rfl rfl rfl (res_cons (ResV.tmp rfl) res_nil) rfl
     replace h44:=(if_neg (by simpa using hs45_8)).symm.trans h44
     cases h44
    by_cases c34 : q27 = true
    ·
     have h40:=ite_true c34 h36
     refine TT.ct rfl rfl c34 ?_
     refine TT.rg [0] [kp] rfl rfl ?_
     refine DL.pu 3 (.int .i64 64) rfl (p_assign rfl rfl) ?_
     refine DL.nil ?_
     obtain rfl:=Option.some.inj h40
     exact TT.weak (J38 ) (Sub.cons rfl (Sub.cons rfl (Sub.nil _)))
    ·
     replace c34:=Bool.eq_false_iff.mpr c34
     have h41:=ite_false c34 h36
     refine TT.cf rfl rfl c34 ?_
     refine TT.skip ?_
     obtain rfl:=Option.some.inj h41
     exact TT.weak (J38 ) (Sub.cons rfl (Sub.cons rfl (Sub.nil _)))
   ·
    by_cases c31 : (a0.kind == 12) = true
    ·
     have h32:=ite_true c31 h28
     refine DL.not rfl (Wn.yes c31 rfl rfl rfl rfl) rfl rfl ?_
     refine DL.not rfl (Wn.yes c31 rfl rfl rfl rfl) rfl rfl ?_
     refine DL.not rfl (Wn.yes c31 rfl rfl rfl rfl) rfl rfl ?_
     refine DL.pu 24 (.bool true) rfl (p_pick_t c31 rfl rfl rfl) ?_
     obtain rfl:=Option.some.inj h32
     exact DL.weak J30 (Sub.cons rfl (Sub.cons rfl (Sub.cons rfl (Sub.nil _))))
    ·
     replace c31:=Bool.eq_false_iff.mpr c31
     have h33:=ite_false c31 h28
     refine DL.pure (v:=ptr b1 1) rfl (Wn.no c31 rfl rfl rfl rfl) rfl rfl rfl (p_fieldAddr ty_f33_1 rfl rfl) ?_
     refine DL.quiet (v:=.int .i64 a0.kind) rfl (Wn.no c31 rfl rfl rfl rfl) rfl rfl rfl (FImm.quiet (i_loadBoxO (I:=M7) (hx7 _ _ hm_2) rfl ty_a27 rfl rfl) (fun w hc => hE22.imm hc)) ?_
     refine DL.pure (v:=.bool (a0.kind == 13)) rfl (Wn.no c31 rfl rfl rfl rfl) rfl rfl rfl (p_eql rfl rfl rfl) ?_
     refine DL.pu 24 (.bool (a0.kind == 13)) rfl (p_pick_f c31 rfl rfl rfl) ?_
     obtain rfl:=Option.some.inj h33
     exact DL.weak J30 (Sub.cons rfl (Sub.cons rfl (Sub.cons rfl (Sub.nil _))))
 ·
  by_cases c16 : (!t8) = true
  ·
   have h17:=ite_true c16 h13
   refine DL.not rfl (Wn.yes c16 rfl rfl rfl rfl) rfl rfl ?_
   refine DL.not rfl (Wn.yes c16 rfl rfl rfl rfl) rfl rfl ?_
   refine DL.not rfl (Wn.yes c16 rfl rfl rfl rfl) rfl rfl ?_
   refine DL.not rfl (Wn.yes c16 rfl rfl rfl rfl) rfl rfl ?_
   refine DL.pu 16 (.bool true) rfl (p_pick_t c16 rfl rfl rfl) ?_
   obtain rfl:=Option.some.inj h17
   exact DL.weak J15 (Sub.cons rfl (Sub.cons rfl (Sub.nil _)))
  ·
   replace c16:=Bool.eq_false_iff.mpr c16
   have h18:=ite_false c16 h13
   refine DL.pure (v:=ptr b1 1) rfl (Wn.no c16 rfl rfl rfl rfl) rfl rfl rfl (p_fieldAddr ty_f33_1 rfl rfl) ?_
   refine DL.quiet (v:=.int .i64 a0.kind) rfl (Wn.no c16 rfl rfl rfl rfl) rfl rfl rfl (FImm.quiet (i_loadBoxO (I:=M7) (hx7 _ _ hm_2) rfl ty_a27 rfl rfl) (fun w hc => hE7.immJ (A:=[]) hc rfl)) ?_
   obtain ⟨t19,h20,h21⟩:=bind_some h18
   refine DL.quiet (v:=str t19) rfl (Wn.no c16 rfl rfl rfl rfl) rfl rfl rfl (f_callR rfl rfl (args_val (vs:=[.int .i64 a0.kind]) rfl) (fun w => enter48 _ w) (fun w hc => frame_Names.val h20 (M:=M7) w (hE7.extJ (A:=[]) hc rfl) )) ?_
   refine DL.pure (v:=.bool (t19 == zU)) rfl (Wn.no c16 rfl rfl rfl rfl) rfl rfl rfl (p_strEq rfl rfl rfl) ?_
   refine DL.pu 16 (.bool (t19 == zU)) rfl (p_pick_f c16 rfl rfl rfl) ?_
   obtain rfl:=Option.some.inj h21
   exact DL.weak J15 (Sub.cons rfl (Sub.cons rfl (Sub.nil _)))
theorem frame_MayCmd.val {a0 : Cmd} {a0_38 : Value} {r : Bool} (h : frame_MayCmd.f a0 = some r) {M : Mem} (w : World) (hM : Ext M (heapOf w)) (hr_a0_38 : IntRow M .u8 a0_38 a0.data) : Calls Tryz.prog 92 #[.agg (Cmd.ce a0 a0_38)] w fun e w' => e = .returned (.bool r) ∧ Below w.heap.size w w' :=
 calls_value (frame_MayCmd.ok h w hM hr_a0_38)

end Go.Proofs.YthldgjbmjgjogaaGreatDoor
