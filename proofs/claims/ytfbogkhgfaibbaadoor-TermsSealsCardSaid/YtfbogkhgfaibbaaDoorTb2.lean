import Derived.Test.YtfbogkhgfaibbaaDoorTb1
namespace Go.Proofs.YtfbogkhgfaibbaaDoor
open Go Go.HW Go.RowKit
set_option linter.unusedVariables false
set_option linter.unusedSimpArgs false

/-! ### escutcheon/escutcheonlaw29.TermsMakes: function 6 -/
noncomputable def B6 : Code:=bodyOf Tryd.f6
def law29_TermsMakes.f (a0 : List Tm) (a1 : Tm) (a2 : Tm) : Option (Bool):=(ref29_Much.f a0).bind fun t4 => (if t4 = true then (some true) else ((ref29_Size.f (Tm.fuel a1) a1 301).bind fun t15 => some (decide (300 < t15)))).bind fun q8 => (if q8 = true then (some true) else ((ref29_Size.f (Tm.fuel a2) a2 301).bind fun t26 => some (decide (300 < t26)))).bind fun q19 => (if q19 = true then (some true) else ((law29_all.f a0).bind fun t37 => some (!t37))).bind fun q30 => (if q30 = true then (some true) else ((ref29_May.f a1).bind fun t48 => some (!t48))).bind fun q41 => (if q41 = true then (some true) else ((ref29_May.f a2).bind fun t59 => some (!t59))).bind fun q52 => if q52 = true then ((law29_known.f).bind fun t64 => some t64) else ((terms_Can.f a1 a0).bind fun t68 => (if t68 = true then ((terms_Can.f a2 a0).bind fun t78 => some t78) else (some false)).bind fun q72 => (law29_makes.f 7 a1 a2 a0).bind fun t83 => (if (!(t83 == q72)) = true then (some true) else ((law29_makes.f 8 a1 a2 a0).bind fun t94 => (law29_makes.f 8 a2 a1 a0).bind fun t97 => some (!(t94 == t97)))).bind fun q87 => if q87 = true then (some false) else (if (!q72) = true then ((law29_known.f).bind fun t105 => some t105) else ((law29_makes.f 4 a1 a2 a0).bind fun t109 => (if t109 = true then ((law29_makes.f 5 a1 a2 a0).bind fun t119 => some t119) else (some false)).bind fun q113 => (if q113 = true then ((law29_makes.f 6 a1 a2 a0).bind fun t130 => some t130) else (some false)).bind fun q124 => (if q124 = true then ((law29_makes.f 8 a1 a2 a0).bind fun t141 => some t141) else (some false)).bind fun q135 => (if q135 = true then ((terms_Can.f (Tm.mk 9 0 [a1]) a0).bind fun t155 => some t155) else (some false)).bind fun q146 => (if q146 = true then ((terms_Can.f (Tm.mk 3 0 [a2]) a0).bind fun t169 => some t169) else (some false)).bind fun q160 => (if q160 = true then ((law29_known.f).bind fun t180 => some t180) else (some false)).bind fun q174 => some q174)))
set_option maxRecDepth 20000 in
theorem law29_TermsMakes.ok {a0 : List Tm} {a1 : Tm} {a2 : Tm} {a0_v : Value} {a1_2 : Value} {a2_2 : Value} {r : Bool} (h : law29_TermsMakes.f a0 a1 a2 = some r) {M : Mem} (w : World) (hM : Ext M (heapOf w)) (hG : Glob M) (hr_a0 : RowS ShTm M a0_v a0) (hr_a1_2 : RowS ShTm M a1_2 (Tree.kids a1)) (hr_a2_2 : RowS ShTm M a2_2 (Tree.kids a2)) : Calls Tryd.prog 6 #[a0_v,.agg (Tm.ce a1 a1_2),.agg (Tm.ce a2 a2_2)] w (Post (fun u => u = .bool r) w):=by
 unfold law29_TermsMakes.f at h
 have hE:=Env.start hM
 refine calls_of_TT (N:=105) (S:=[(0,a0_v),(1,.agg (Tm.ce a1 a1_2)),(2,.agg (Tm.ce a2 a2_2))]) (c:=B6) Tryd.func6 rfl rfl rfl (by simp) ?_
 show TT _ _ _ _ _ _ [.code (sub [] B6)] _ _
 refine TT.seq (x:=sub [0] B6) (y:=sub [1] B6) ?_
 refine TT.rg [0,1,2,3] [(.alloc,none),(.alloc,none),(.alloc,none),kp] rfl rfl ?_
 refine DL.new (ob:=.cells (#[a0_v]) 22) (mk:=fun b => ptr b 0) (i:=0) rfl (Wn.none rfl) rfl rfl rfl (f_boxSl (v:=a0_v) (sl_cells (RowS.sl hr_a0)) rfl rfl) ?_
 intro b1 hb1
 refine DL.new (ob:=.cells ((Tm.ce a1 a1_2)) 25) (mk:=fun b => ptr b 0) (i:=1) rfl (Wn.none rfl) rfl rfl rfl (f_box (v:=.agg (Tm.ce a1 a1_2)) rfl rfl) ?_
 intro b2 hb2
 refine DL.new (ob:=.cells ((Tm.ce a2 a2_2)) 25) (mk:=fun b => ptr b 0) (i:=2) rfl (Wn.none rfl) rfl rfl rfl (f_box (v:=.agg (Tm.ce a2 a2_2)) rfl rfl) ?_
 intro b3 hb3
 refine DL.pu 6 (.bool false) rfl (p_assign rfl rfl) ?_
 refine DL.nil ?_
 refine TT.seq (x:=sub [1,0] B6) (y:=sub [1,1] B6) ?_
 refine TT.seq (x:=sub [1,0,0] B6) (y:=sub [1,0,1] B6) ?_
 refine TT.rg [0,1,2,3,4,5,6,7,8,9,10,11,12,13,14,15,16,17,18,19,20,21,22,23,24,25,26] [kq,kq,kp,kq,kq,kp,kp,kp,kq,kq,kp,kp,kp,kq,kq,kp,kp,kp,kq,kq,kp,kp,kp,kq,kq,kp,kp] rfl rfl ?_
 refine DL.qu 9 (a0_v) rfl (f_load (j:=2) ty_a22 rfl rfl rfl rfl) ?_
 obtain ⟨t4,h5,h6⟩:=bind_some h
 refine DL.qu 10 (.bool t4) rfl (f_callR rfl rfl (args_val (vs:=[a0_v]) rfl) (fun w => enter12 _ w) (fun w hc => ref29_Much.val h5 (M:=M) w (hE.ext hc) hr_a0)) ?_
 refine DL.mv 11 (.bool t4) rfl rfl rfl ?_
 obtain ⟨q8,h9,h10⟩:=bind_some h6
 refine DL.cut [(3,ptr b1 0),(4,ptr b2 0),(5,ptr b3 0),(15,.bool q8)] [7,8,9,10,11,12,13,14,15,16,17,18,19,20,21,22,23,24,25,26] ?_ (fun J11 => ?_)
 ·
  refine DL.mv 16 (.bool q8) rfl rfl rfl ?_
  obtain ⟨q19,h20,h21⟩:=bind_some h10
  refine DL.cut [(3,ptr b1 0),(4,ptr b2 0),(5,ptr b3 0),(20,.bool q19)] [12,13,14,15,16,17,18,19,20,21,22,23,24,25,26] ?_ (fun J22 => ?_)
  ·
   refine DL.mv 21 (.bool q19) rfl rfl rfl ?_
   obtain ⟨q30,h31,h32⟩:=bind_some h21
   refine DL.cut [(3,ptr b1 0),(4,ptr b2 0),(5,ptr b3 0),(25,.bool q30)] [17,18,19,20,21,22,23,24,25,26] ?_ (fun J33 => ?_)
   ·
    refine DL.mv 26 (.bool q30) rfl rfl rfl ?_
    obtain ⟨q41,h42,h43⟩:=bind_some h32
    refine DL.cut [(3,ptr b1 0),(4,ptr b2 0),(5,ptr b3 0),(30,.bool q41)] [22,23,24,25,26] ?_ (fun J44 => ?_)
    ·
     refine DL.mv 31 (.bool q41) rfl rfl rfl ?_
     obtain ⟨q52,h53,h54⟩:=bind_some h43
     refine DL.cut [(3,ptr b1 0),(4,ptr b2 0),(5,ptr b3 0),(35,.bool q52)] [] ?_ (fun J55 => ?_)
     ·
      refine DL.nil ?_
      by_cases c62 : q52 = true
      ·
       have h63:=ite_true c62 h54
       refine TT.cond_true (x:=sub [1,0,1,0] B6) (y:=sub [1,0,1,1] B6) rfl c62 ?_
       refine TT.seq (x:=sub [1,0,1,0,0] B6) (y:=sub [1,0,1,0,1] B6) ?_
       refine TT.rg [0,1] [kq,kp] rfl rfl ?_
       obtain ⟨t64,h65,h66⟩:=bind_some h63
       refine DL.qu 36 (.bool t64) rfl (f_callR rfl rfl (args_val (vs:=[]) rfl) (fun w => enter11 _ w) (fun w hc => law29_known.val h65 (M:=M) w (hE.ext hc) hG)) ?_
       refine DL.pu 6 (.bool t64) rfl (p_assign rfl rfl) ?_
       refine DL.nil ?_
       obtain rfl:=Option.some.inj h66
       exact retnE (rs:=[.tmp 6]) (vs:=[.bool t64]) hE.base Tryd.func6 rfl rfl rfl (res_cons (ResV.tmp rfl) res_nil) rfl
      ·
       replace c62:=Bool.eq_false_iff.mpr c62
       have h67:=ite_false c62 h54
       refine TT.cond_false (x:=sub [1,0,1,0] B6) (y:=sub [1,0,1,1] B6) rfl c62 ?_
       refine TT.skip ?_
       refine TT.seq (x:=sub [1,1,0] B6) (y:=sub [1,1,1] B6) ?_
       refine TT.rg [0,1] [kp,kp] rfl rfl ?_
       refine DL.pu 37 (.func (.func 21) #[] #[ptr b1 0]) rfl (p_makeFunc rfl (args_val (vs:=[ptr b1 0]) rfl)) ?_
       refine DL.pu 7 (.func (.func 21) #[] #[ptr b1 0]) rfl (p_assign rfl rfl) ?_
       refine DL.nil ?_
       refine TT.seq (x:=sub [1,1,1,0] B6) (y:=sub [1,1,1,1] B6) ?_
       refine TT.rg [0,1,2,3,4,5,6,7,8] [kq,kq,kq,kp,kq,kq,kq,kp,kp] rfl rfl ?_
       refine DL.qu 38 (.agg (Tm.ce a1 a1_2)) rfl (f_loadA (j:=1) ty_a25 ty_s25 rfl rfl rfl rfl) ?_
       refine DL.qu 39 (a0_v) rfl (f_load (j:=2) ty_a22 rfl rfl rfl rfl) ?_
       obtain ⟨t68,h69,h70⟩:=bind_some h67
       refine DL.qu 40 (.bool t68) rfl (f_callR rfl rfl (args_val (vs:=[.agg (Tm.ce a1 a1_2),a0_v]) rfl) (fun w => enter16 _ w) (fun w hc => terms_Can.val h69 (M:=M) w (hE.ext hc) hG hr_a1_2 hr_a0)) ?_
       refine DL.mv 41 (.bool t68) rfl rfl rfl ?_
       obtain ⟨q72,h73,h74⟩:=bind_some h70
       refine DL.cut [(3,ptr b1 0),(4,ptr b2 0),(5,ptr b3 0),(7,.func (.func 21) #[] #[ptr b1 0]),(45,.bool q72)] [8] ?_ (fun J75 => ?_)
       ·
        refine DL.pu 8 (.bool q72) rfl (p_assign rfl rfl) ?_
        refine DL.nil ?_
        refine TT.seq (x:=sub [1,1,1,1,0] B6) (y:=sub [1,1,1,1,1] B6) ?_
        refine TT.seq (x:=sub [1,1,1,1,0,0] B6) (y:=sub [1,1,1,1,0,1] B6) ?_
        refine TT.rgD [0,1,2,3,4,5,6,7,8,9,10,11,12,13,14,15,16] [0,0,0,7,0,31,63,127,127,127,1023,127,127,127,16383,32767,65535] [kp,(.look,some 1),(.look,some 0),kq,kp,kp,kp,kp,(.look,some 1),(.look,some 0),kq,kp,(.look,some 0),(.look,some 1),kq,kp,kp] rfl mixed (by kernel_rfl) ?_
        intro w82 hl82 hj82 hz82
        refine DL.mv 46 (.func (.func 21) #[] #[ptr b1 0]) rfl rfl rfl ?_
        refine DL.look (v:=.agg (Tm.ce a1 a1_2)) (x:=1) (b:=b2) (i:=1) rfl (Wn.none rfl) rfl rfl rfl rfl rfl (List.mem_of_getElem? (i:=1) rfl) (b_loadA ty_a25 ty_s25 rfl rfl rfl) ?_
        refine DL.look (v:=.agg (Tm.ce a2 a2_2)) (x:=0) (b:=b3) (i:=2) rfl (Wn.none rfl) rfl rfl rfl rfl rfl (List.mem_of_getElem? (i:=0) rfl) (b_loadA ty_a25 ty_s25 rfl rfl rfl) ?_
        obtain ⟨t83,h84,h85⟩:=bind_some h74
        refine DL.qu 49 (.bool t83) rfl (f_callV (by simp) rfl rfl rfl (args_val (vs:=[.int .i64 7,.agg (Tm.ce a1 a1_2),.agg (Tm.ce a2 a2_2)]) rfl) (fun w => enter21 _ w) (fun w hc => law29_makes.val h84 (M:=heapOf w) w (Ext.refl _) (Glob.mono hG (hE.ext hc)) (RowS.mono hr_a1_2 (hE.ext hc)) (RowS.mono hr_a2_2 (hE.ext hc)) (RowS.mono hr_a0 (hE.ext hc)) (box_own hc (i:=2) rfl))) ?_
        refine DL.mv 50 (.bool q72) rfl rfl rfl ?_
        refine DL.pu 51 (.bool (!(t83 == q72))) rfl (p_neb ty_u4 rfl rfl rfl) ?_
        refine DL.mv 52 (.bool (!(t83 == q72))) rfl rfl rfl ?_
        obtain ⟨q87,h88,h89⟩:=bind_some h85
        refine DL.cut [(3,ptr b1 0),(4,ptr b2 0),(5,ptr b3 0),(7,.func (.func 21) #[] #[ptr b1 0]),(8,.bool q72),(62,.bool q87)] [] ?_ (fun J90 => ?_)
        ·
         refine DL.nil' hl82 ?_
         by_cases c100 : q87 = true
         ·
          have h101:=ite_true c100 h89
          refine TT.cond_true (x:=sub [1,1,1,1,0,1,0] B6) (y:=sub [1,1,1,1,0,1,1] B6) rfl c100 ?_
          refine TT.seq (x:=sub [1,1,1,1,0,1,0,0] B6) (y:=sub [1,1,1,1,0,1,0,1] B6) ?_
          refine TT.rg [0] [kp] rfl rfl ?_
          refine DL.pu 6 (.bool false) rfl (p_assign rfl rfl) ?_
          refine DL.nil ?_
          obtain rfl:=Option.some.inj h101
          exact retnE (rs:=[.tmp 6]) (vs:=[.bool false]) hE.base Tryd.func6 rfl rfl rfl (res_cons (ResV.tmp rfl) res_nil) rfl
         ·
          replace c100:=Bool.eq_false_iff.mpr c100
          have h102:=ite_false c100 h89
          refine TT.cond_false (x:=sub [1,1,1,1,0,1,0] B6) (y:=sub [1,1,1,1,0,1,1] B6) rfl c100 ?_
          refine TT.skip ?_
          refine TT.seq (x:=sub [1,1,1,1,1,0] B6) (y:=sub [1,1,1,1,1,1] B6) ?_
          refine TT.seq (x:=sub [1,1,1,1,1,0,0] B6) (y:=sub [1,1,1,1,1,0,1] B6) ?_
          refine TT.rg [0,1] [kp,kp] rfl rfl ?_
          refine DL.mv 63 (.bool q72) rfl rfl rfl ?_
          refine DL.pu 64 (.bool (!q72)) rfl (p_not rfl rfl) ?_
          refine DL.nil ?_
          by_cases c103 : (!q72) = true
          ·
           have h104:=ite_true c103 h102
           refine TT.cond_true (x:=sub [1,1,1,1,1,0,1,0] B6) (y:=sub [1,1,1,1,1,0,1,1] B6) rfl c103 ?_
           refine TT.seq (x:=sub [1,1,1,1,1,0,1,0,0] B6) (y:=sub [1,1,1,1,1,0,1,0,1] B6) ?_
           refine TT.rg [0,1] [kq,kp] rfl rfl ?_
           obtain ⟨t105,h106,h107⟩:=bind_some h104
           refine DL.qu 65 (.bool t105) rfl (f_callR rfl rfl (args_val (vs:=[]) rfl) (fun w => enter11 _ w) (fun w hc => law29_known.val h106 (M:=M) w (hE.ext hc) hG)) ?_
           refine DL.pu 6 (.bool t105) rfl (p_assign rfl rfl) ?_
           refine DL.nil ?_
           obtain rfl:=Option.some.inj h107
           exact retnE (rs:=[.tmp 6]) (vs:=[.bool t105]) hE.base Tryd.func6 rfl rfl rfl (res_cons (ResV.tmp rfl) res_nil) rfl
          ·
           replace c103:=Bool.eq_false_iff.mpr c103
           have h108:=ite_false c103 h102
           refine TT.cond_false (x:=sub [1,1,1,1,1,0,1,0] B6) (y:=sub [1,1,1,1,1,0,1,1] B6) rfl c103 ?_
           refine TT.skip ?_
           refine TT.seq (x:=sub [1,1,1,1,1,1,0] B6) (y:=sub [1,1,1,1,1,1,1] B6) ?_
           refine TT.rg [0,1,2,3,4,5,6,7,8,9,10,11,12,13,14,15,16,17,18,19,20,21,22,23,24,25,26,27,28,29,30,31,32,33,34,35,36,37,38,39] [kp,kq,kq,kq,kp,kp,kq,kq,kq,kp,kp,kp,kq,kq,kq,kp,kp,kp,kq,kq,kq,kp,kp,kq,kk,kp,kq,kq,kp,kp,kq,kk,kp,kq,kq,kp,kp,kq,kp,kp] rfl rfl ?_
           refine DL.mv 66 (.func (.func 21) #[] #[ptr b1 0]) rfl rfl rfl ?_
           refine DL.qu 67 (.agg (Tm.ce a1 a1_2)) rfl (f_loadA (j:=1) ty_a25 ty_s25 rfl rfl rfl rfl) ?_
           refine DL.qu 68 (.agg (Tm.ce a2 a2_2)) rfl (f_loadA (j:=0) ty_a25 ty_s25 rfl rfl rfl rfl) ?_
           obtain ⟨t109,h110,h111⟩:=bind_some h108
           refine DL.qu 69 (.bool t109) rfl (f_callV (by simp) rfl rfl rfl (args_val (vs:=[.int .i64 4,.agg (Tm.ce a1 a1_2),.agg (Tm.ce a2 a2_2)]) rfl) (fun w => enter21 _ w) (fun w hc => law29_makes.val h110 (M:=heapOf w) w (Ext.refl _) (Glob.mono hG (hE.ext hc)) (RowS.mono hr_a1_2 (hE.ext hc)) (RowS.mono hr_a2_2 (hE.ext hc)) (RowS.mono hr_a0 (hE.ext hc)) (box_own hc (i:=2) rfl))) ?_
           refine DL.mv 70 (.bool t109) rfl rfl rfl ?_
           obtain ⟨q113,h114,h115⟩:=bind_some h111
           refine DL.cut [(3,ptr b1 0),(4,ptr b2 0),(5,ptr b3 0),(7,.func (.func 21) #[] #[ptr b1 0]),(75,.bool q113)] [10,11,12,13,14,15,16,17,18,19,20,21,22,23,24,25,26,27,28,29,30,31,32,33,34,35,36,37,38,39] ?_ (fun J116 => ?_)
           ·
            refine DL.mv 76 (.bool q113) rfl rfl rfl ?_
            obtain ⟨q124,h125,h126⟩:=bind_some h115
            refine DL.cut [(3,ptr b1 0),(4,ptr b2 0),(5,ptr b3 0),(7,.func (.func 21) #[] #[ptr b1 0]),(81,.bool q124)] [16,17,18,19,20,21,22,23,24,25,26,27,28,29,30,31,32,33,34,35,36,37,38,39] ?_ (fun J127 => ?_)
            ·
             refine DL.mv 82 (.bool q124) rfl rfl rfl ?_
             obtain ⟨q135,h136,h137⟩:=bind_some h126
             refine DL.cut [(3,ptr b1 0),(4,ptr b2 0),(5,ptr b3 0),(87,.bool q135)] [22,23,24,25,26,27,28,29,30,31,32,33,34,35,36,37,38,39] ?_ (fun J138 => ?_)
             ·
              refine DL.mv 88 (.bool q135) rfl rfl rfl ?_
              obtain ⟨q146,h147,h148⟩:=bind_some h137
              refine DL.cutJ [(some b3,.cells ((Tm.ce a2 a2_2)) 25 (0,0)),(some b2,.cells ((Tm.ce a1 a1_2)) 25 (0,0)),(some b1,.cells (#[a0_v]) 22 (0,0))] M hE [(3,ptr b1 0),(5,ptr b3 0),(94,.bool q146)] [29,30,31,32,33,34,35,36,37,38,39] ?_ (fun J149 => ?_)
              ·
               intro M150 J150 hE150 hx150
               show DL _ _ _ _ _ _ _ _ _ _ _ _ ((some b3,.cells ((Tm.ce a2 a2_2)) 25 (0,0)) :: (some b2,.cells ((Tm.ce a1 a1_2)) 25 (0,0)) :: (some b1,.cells (#[a0_v]) 22 (0,0)) :: J150)
               refine DL.mv 95 (.bool q146) rfl rfl rfl ?_
               obtain ⟨q160,h161,h162⟩:=bind_some h148
               refine DL.cutJ [(some b3,.cells ((Tm.ce a2 a2_2)) 25 (0,0)),(some b2,.cells ((Tm.ce a1 a1_2)) 25 (0,0)),(some b1,.cells (#[a0_v]) 22 (0,0))] M150 hE150 [(101,.bool q160)] [36,37,38,39] ?_ (fun J163 => ?_)
               ·
                intro M164 J164 hE164 hx164
                show DL _ _ _ _ _ _ _ _ _ _ _ _ ((some b3,.cells ((Tm.ce a2 a2_2)) 25 (0,0)) :: (some b2,.cells ((Tm.ce a1 a1_2)) 25 (0,0)) :: (some b1,.cells (#[a0_v]) 22 (0,0)) :: J164)
                refine DL.mv 102 (.bool q160) rfl rfl rfl ?_
                obtain ⟨q174,h175,h176⟩:=bind_some h162
                refine DL.cut [(104,.bool q174)] [39] ?_ (fun J177 => ?_)
                ·
                 refine DL.pu 6 (.bool q174) rfl (p_assign rfl rfl) ?_
                 refine DL.nil ?_
                 refine TT.settle (A:=[(some b3,.cells ((Tm.ce a2 a2_2)) 25 (0,0)),(some b2,.cells ((Tm.ce a1 a1_2)) 25 (0,0)),(some b1,.cells (#[a0_v]) 22 (0,0))]) (J:=J164) hE164 ?_
                 intro I184 hE184 hxI184
                 obtain rfl:=Option.some.inj h176
                 exact retnE (rs:=[.tmp 6]) (vs:=[.bool q174]) hE184.base Tryd.func6 rfl rfl rfl (res_cons (ResV.tmp rfl) res_nil) rfl
                ·
                 by_cases c178 : q160 = true
                 ·
                  have h179:=ite_true c178 h175
                  obtain ⟨t180,h181,h182⟩:=bind_some h179
                  refine DL.quiet (v:=.bool t180) rfl (Wn.yes c178 rfl rfl rfl rfl) rfl rfl rfl (f_callR rfl rfl (args_val (vs:=[]) rfl) (fun w => enter11 _ w) (fun w hc => law29_known.val h181 (M:=M164) w (hE164.extJ (A:=[(some b3,.cells ((Tm.ce a2 a2_2)) 25 (0,0)),(some b2,.cells ((Tm.ce a1 a1_2)) 25 (0,0)),(some b1,.cells (#[a0_v]) 22 (0,0))]) hc rfl) (Glob.mono hG (hx150.trans hx164)))) ?_
                  refine DL.pu 104 (.bool t180) rfl (p_pick_t c178 rfl rfl rfl) ?_
                  obtain rfl:=Option.some.inj h182
                  exact DL.weak J177 (Sub.cons rfl (Sub.nil _))
                 ·
                  replace c178:=Bool.eq_false_iff.mpr c178
                  have h183:=ite_false c178 h175
                  refine DL.not (i:=37) rfl (Wn.no c178 rfl rfl rfl rfl) rfl rfl ?_
                  refine DL.pu 104 (.bool false) rfl (p_pick_f c178 rfl rfl rfl) ?_
                  obtain rfl:=Option.some.inj h183
                  exact DL.weak J177 (Sub.cons rfl (Sub.nil _))
               ·
                by_cases c159 : q146 = true
                ·
                 have h165:=ite_true c159 h161
                 refine DL.quiet (v:=.agg (Tm.ce a2 a2_2)) rfl (Wn.yes c159 rfl rfl rfl rfl) rfl rfl rfl (f_loadA (j:=0) ty_a25 ty_s25 rfl rfl rfl rfl) ?_
                 refine DL.newRowS (s:=ShTm) (zs:=[a2]) (cells:=[.int .i64 (Tm.kind a2),.int .i64 (Tm.num a2),a2_2]) (n:=1) (A:=[(some b3,.cells ((Tm.ce a2 a2_2)) 25 (0,0)),(some b2,.cells ((Tm.ce a1 a1_2)) 25 (0,0)),(some b1,.cells (#[a0_v]) 22 (0,0))]) (J:=J150) (fun J168 => ((some b3,.cells ((Tm.ce a2 a2_2)) 25 (0,0)) :: (some b2,.cells ((Tm.ce a1 a1_2)) 25 (0,0)) :: (some b1,.cells (#[a0_v]) 22 (0,0)) :: J168)) (Nat.le_refl _) hE150 rfl (fun _ => rfl) rfl (by decide) rfl (fun i x hx => by match i,hx with | 0,hx => cases hx; exact (Tm.cl (t:=a2) (RowS.mono hr_a2_2 hx150)) | k + 1,hx => simp at hx) (i:=31) rfl (Wn.yes c159 rfl rfl rfl rfl) rfl rfl rfl (f_buildS (n:=1) (vs:=[(0,.agg (Tm.ce a2 a2_2))]) elem22 rfl rfl (by kernel_rfl) rfl (args_val2 rfl)) ?_
                 intro v168 M168 J168 hE168 hx168 hr_v168
                 show DL _ _ _ _ _ _ _ _ _ _ _ _ ((some b3,.cells ((Tm.ce a2 a2_2)) 25 (0,0)) :: (some b2,.cells ((Tm.ce a1 a1_2)) 25 (0,0)) :: (some b1,.cells (#[a0_v]) 22 (0,0)) :: J168)
                 refine DL.pure (v:=.agg #[.int .i64 3,.int .i64 0,v168]) rfl (Wn.yes c159 rfl rfl rfl rfl) rfl rfl rfl (p_build (vs:=[(0,.int .i64 3),(2,v168)]) (fun w => by obtain ⟨_,_,e_⟩:=RowS.sl hr_v168; subst e_; kernel_rfl) rfl rfl) ?_
                 refine DL.quiet (v:=a0_v) rfl (Wn.yes c159 rfl rfl rfl rfl) rfl rfl rfl (f_load (j:=2) ty_a22 rfl rfl rfl rfl) ?_
                 obtain ⟨t169,h170,h171⟩:=bind_some h165
                 refine DL.quiet (v:=.bool t169) rfl (Wn.yes c159 rfl rfl rfl rfl) rfl rfl rfl (f_callR rfl rfl (args_val (vs:=[.agg #[.int .i64 3,.int .i64 0,v168],a0_v]) rfl) (fun w => enter16 _ w) (fun w hc => terms_Can.val h170 (M:=M168) w (hE168.extJ (A:=[(some b3,.cells ((Tm.ce a2 a2_2)) 25 (0,0)),(some b2,.cells ((Tm.ce a1 a1_2)) 25 (0,0)),(some b1,.cells (#[a0_v]) 22 (0,0))]) hc rfl) (Glob.mono hG (hx150.trans hx168)) hr_v168 (RowS.mono hr_a0 (hx150.trans hx168)))) ?_
                 refine DL.pu 101 (.bool t169) rfl (p_pick_t c159 rfl rfl rfl) ?_
                 obtain rfl:=Option.some.inj h171
                 exact DL.weak (J163 _ _ hE168 hx168) (Sub.cons rfl (Sub.nil _))
                ·
                 replace c159:=Bool.eq_false_iff.mpr c159
                 have h172:=ite_false c159 h161
                 refine DL.not (i:=30) rfl (Wn.no c159 rfl rfl rfl rfl) rfl rfl ?_
                 refine DL.not (i:=31) rfl (Wn.no c159 rfl rfl rfl rfl) rfl rfl ?_
                 refine DL.not (i:=32) rfl (Wn.no c159 rfl rfl rfl rfl) rfl rfl ?_
                 refine DL.not (i:=33) rfl (Wn.no c159 rfl rfl rfl rfl) rfl rfl ?_
                 refine DL.not (i:=34) rfl (Wn.no c159 rfl rfl rfl rfl) rfl rfl ?_
                 refine DL.pu 101 (.bool false) rfl (p_pick_f c159 rfl rfl rfl) ?_
                 obtain rfl:=Option.some.inj h172
                 exact DL.weak (J163 _ _ hE150 (Ext.refl _)) (Sub.cons rfl (Sub.nil _))
              ·
               by_cases c145 : q135 = true
               ·
                have h151:=ite_true c145 h147
                refine DL.quiet (v:=.agg (Tm.ce a1 a1_2)) rfl (Wn.yes c145 rfl rfl rfl rfl) rfl rfl rfl (f_loadA (j:=1) ty_a25 ty_s25 rfl rfl rfl rfl) ?_
                refine DL.newRowS (s:=ShTm) (zs:=[a1]) (cells:=[.int .i64 (Tm.kind a1),.int .i64 (Tm.num a1),a1_2]) (n:=1) (A:=[(some b3,.cells ((Tm.ce a2 a2_2)) 25 (0,0)),(some b2,.cells ((Tm.ce a1 a1_2)) 25 (0,0)),(some b1,.cells (#[a0_v]) 22 (0,0))]) (J:=[]) (fun J154 => ((some b3,.cells ((Tm.ce a2 a2_2)) 25 (0,0)) :: (some b2,.cells ((Tm.ce a1 a1_2)) 25 (0,0)) :: (some b1,.cells (#[a0_v]) 22 (0,0)) :: J154)) (Nat.le_refl _) hE.nil (List.append_nil _).symm (fun _ => rfl) rfl (by decide) rfl (fun i x hx => by match i,hx with | 0,hx => cases hx; exact (Tm.cl (t:=a1) hr_a1_2) | k + 1,hx => simp at hx) (i:=24) rfl (Wn.yes c145 rfl rfl rfl rfl) rfl rfl rfl (f_buildS (n:=1) (vs:=[(0,.agg (Tm.ce a1 a1_2))]) elem22 rfl rfl (by kernel_rfl) rfl (args_val2 rfl)) ?_
                intro v154 M154 J154 hE154 hx154 hr_v154
                show DL _ _ _ _ _ _ _ _ _ _ _ _ ((some b3,.cells ((Tm.ce a2 a2_2)) 25 (0,0)) :: (some b2,.cells ((Tm.ce a1 a1_2)) 25 (0,0)) :: (some b1,.cells (#[a0_v]) 22 (0,0)) :: J154)
                refine DL.pure (v:=.agg #[.int .i64 9,.int .i64 0,v154]) rfl (Wn.yes c145 rfl rfl rfl rfl) rfl rfl rfl (p_build (vs:=[(0,.int .i64 9),(2,v154)]) (fun w => by obtain ⟨_,_,e_⟩:=RowS.sl hr_v154; subst e_; kernel_rfl) rfl rfl) ?_
                refine DL.quiet (v:=a0_v) rfl (Wn.yes c145 rfl rfl rfl rfl) rfl rfl rfl (f_load (j:=2) ty_a22 rfl rfl rfl rfl) ?_
                obtain ⟨t155,h156,h157⟩:=bind_some h151
                refine DL.quiet (v:=.bool t155) rfl (Wn.yes c145 rfl rfl rfl rfl) rfl rfl rfl (f_callR rfl rfl (args_val (vs:=[.agg #[.int .i64 9,.int .i64 0,v154],a0_v]) rfl) (fun w => enter16 _ w) (fun w hc => terms_Can.val h156 (M:=M154) w (hE154.extJ (A:=[(some b3,.cells ((Tm.ce a2 a2_2)) 25 (0,0)),(some b2,.cells ((Tm.ce a1 a1_2)) 25 (0,0)),(some b1,.cells (#[a0_v]) 22 (0,0))]) hc rfl) (Glob.mono hG hx154) hr_v154 (RowS.mono hr_a0 hx154))) ?_
                refine DL.pu 94 (.bool t155) rfl (p_pick_t c145 rfl rfl rfl) ?_
                obtain rfl:=Option.some.inj h157
                exact DL.weak (J149 _ _ hE154 hx154) (Sub.cons rfl (Sub.cons rfl (Sub.cons rfl (Sub.nil _))))
               ·
                replace c145:=Bool.eq_false_iff.mpr c145
                have h158:=ite_false c145 h147
                refine DL.not (i:=23) rfl (Wn.no c145 rfl rfl rfl rfl) rfl rfl ?_
                refine DL.not (i:=24) rfl (Wn.no c145 rfl rfl rfl rfl) rfl rfl ?_
                refine DL.not (i:=25) rfl (Wn.no c145 rfl rfl rfl rfl) rfl rfl ?_
                refine DL.not (i:=26) rfl (Wn.no c145 rfl rfl rfl rfl) rfl rfl ?_
                refine DL.not (i:=27) rfl (Wn.no c145 rfl rfl rfl rfl) rfl rfl ?_
                refine DL.pu 94 (.bool false) rfl (p_pick_f c145 rfl rfl rfl) ?_
                obtain rfl:=Option.some.inj h158
                exact DL.weak (J149 _ _ hE.nil (Ext.refl _)) (Sub.cons rfl (Sub.cons rfl (Sub.cons rfl (Sub.nil _))))
             ·
              by_cases c139 : q124 = true
              ·
               have h140:=ite_true c139 h136
               refine DL.pure (v:=.func (.func 21) #[] #[ptr b1 0]) rfl (Wn.yes c139 rfl rfl rfl rfl) rfl rfl rfl (p_move rfl rfl) ?_
               refine DL.quiet (v:=.agg (Tm.ce a1 a1_2)) rfl (Wn.yes c139 rfl rfl rfl rfl) rfl rfl rfl (f_loadA (j:=1) ty_a25 ty_s25 rfl rfl rfl rfl) ?_
               refine DL.quiet (v:=.agg (Tm.ce a2 a2_2)) rfl (Wn.yes c139 rfl rfl rfl rfl) rfl rfl rfl (f_loadA (j:=0) ty_a25 ty_s25 rfl rfl rfl rfl) ?_
               obtain ⟨t141,h142,h143⟩:=bind_some h140
               refine DL.quiet (v:=.bool t141) rfl (Wn.yes c139 rfl rfl rfl rfl) rfl rfl rfl (f_callV (by simp) rfl rfl rfl (args_val (vs:=[.int .i64 8,.agg (Tm.ce a1 a1_2),.agg (Tm.ce a2 a2_2)]) rfl) (fun w => enter21 _ w) (fun w hc => law29_makes.val h142 (M:=heapOf w) w (Ext.refl _) (Glob.mono hG (hE.ext hc)) (RowS.mono hr_a1_2 (hE.ext hc)) (RowS.mono hr_a2_2 (hE.ext hc)) (RowS.mono hr_a0 (hE.ext hc)) (box_own hc (i:=2) rfl))) ?_
               refine DL.pu 87 (.bool t141) rfl (p_pick_t c139 rfl rfl rfl) ?_
               obtain rfl:=Option.some.inj h143
               exact DL.weak J138 (Sub.cons rfl (Sub.cons rfl (Sub.cons rfl (Sub.cons rfl (Sub.nil _)))))
              ·
               replace c139:=Bool.eq_false_iff.mpr c139
               have h144:=ite_false c139 h136
               refine DL.not (i:=17) rfl (Wn.no c139 rfl rfl rfl rfl) rfl rfl ?_
               refine DL.not (i:=18) rfl (Wn.no c139 rfl rfl rfl rfl) rfl rfl ?_
               refine DL.not (i:=19) rfl (Wn.no c139 rfl rfl rfl rfl) rfl rfl ?_
               refine DL.not (i:=20) rfl (Wn.no c139 rfl rfl rfl rfl) rfl rfl ?_
               refine DL.pu 87 (.bool false) rfl (p_pick_f c139 rfl rfl rfl) ?_
               obtain rfl:=Option.some.inj h144
               exact DL.weak J138 (Sub.cons rfl (Sub.cons rfl (Sub.cons rfl (Sub.cons rfl (Sub.nil _)))))
            ·
             by_cases c128 : q113 = true
             ·
              have h129:=ite_true c128 h125
              refine DL.pure (v:=.func (.func 21) #[] #[ptr b1 0]) rfl (Wn.yes c128 rfl rfl rfl rfl) rfl rfl rfl (p_move rfl rfl) ?_
              refine DL.quiet (v:=.agg (Tm.ce a1 a1_2)) rfl (Wn.yes c128 rfl rfl rfl rfl) rfl rfl rfl (f_loadA (j:=1) ty_a25 ty_s25 rfl rfl rfl rfl) ?_
              refine DL.quiet (v:=.agg (Tm.ce a2 a2_2)) rfl (Wn.yes c128 rfl rfl rfl rfl) rfl rfl rfl (f_loadA (j:=0) ty_a25 ty_s25 rfl rfl rfl rfl) ?_
              obtain ⟨t130,h131,h132⟩:=bind_some h129
              refine DL.quiet (v:=.bool t130) rfl (Wn.yes c128 rfl rfl rfl rfl) rfl rfl rfl (f_callV (by simp) rfl rfl rfl (args_val (vs:=[.int .i64 6,.agg (Tm.ce a1 a1_2),.agg (Tm.ce a2 a2_2)]) rfl) (fun w => enter21 _ w) (fun w hc => law29_makes.val h131 (M:=heapOf w) w (Ext.refl _) (Glob.mono hG (hE.ext hc)) (RowS.mono hr_a1_2 (hE.ext hc)) (RowS.mono hr_a2_2 (hE.ext hc)) (RowS.mono hr_a0 (hE.ext hc)) (box_own hc (i:=2) rfl))) ?_
              refine DL.pu 81 (.bool t130) rfl (p_pick_t c128 rfl rfl rfl) ?_
              obtain rfl:=Option.some.inj h132
              exact DL.weak J127 (Sub.cons rfl (Sub.cons rfl (Sub.cons rfl (Sub.cons rfl (Sub.cons rfl (Sub.nil _))))))
             ·
              replace c128:=Bool.eq_false_iff.mpr c128
              have h133:=ite_false c128 h125
              refine DL.not (i:=11) rfl (Wn.no c128 rfl rfl rfl rfl) rfl rfl ?_
              refine DL.not (i:=12) rfl (Wn.no c128 rfl rfl rfl rfl) rfl rfl ?_
              refine DL.not (i:=13) rfl (Wn.no c128 rfl rfl rfl rfl) rfl rfl ?_
              refine DL.not (i:=14) rfl (Wn.no c128 rfl rfl rfl rfl) rfl rfl ?_
              refine DL.pu 81 (.bool false) rfl (p_pick_f c128 rfl rfl rfl) ?_
              obtain rfl:=Option.some.inj h133
              exact DL.weak J127 (Sub.cons rfl (Sub.cons rfl (Sub.cons rfl (Sub.cons rfl (Sub.cons rfl (Sub.nil _))))))
           ·
            by_cases c117 : t109 = true
            ·
             have h118:=ite_true c117 h114
             refine DL.pure (v:=.func (.func 21) #[] #[ptr b1 0]) rfl (Wn.yes c117 rfl rfl rfl rfl) rfl rfl rfl (p_move rfl rfl) ?_
             refine DL.quiet (v:=.agg (Tm.ce a1 a1_2)) rfl (Wn.yes c117 rfl rfl rfl rfl) rfl rfl rfl (f_loadA (j:=1) ty_a25 ty_s25 rfl rfl rfl rfl) ?_
             refine DL.quiet (v:=.agg (Tm.ce a2 a2_2)) rfl (Wn.yes c117 rfl rfl rfl rfl) rfl rfl rfl (f_loadA (j:=0) ty_a25 ty_s25 rfl rfl rfl rfl) ?_
             obtain ⟨t119,h120,h121⟩:=bind_some h118
             refine DL.quiet (v:=.bool t119) rfl (Wn.yes c117 rfl rfl rfl rfl) rfl rfl rfl (f_callV (by simp) rfl rfl rfl (args_val (vs:=[.int .i64 5,.agg (Tm.ce a1 a1_2),.agg (Tm.ce a2 a2_2)]) rfl) (fun w => enter21 _ w) (fun w hc => law29_makes.val h120 (M:=heapOf w) w (Ext.refl _) (Glob.mono hG (hE.ext hc)) (RowS.mono hr_a1_2 (hE.ext hc)) (RowS.mono hr_a2_2 (hE.ext hc)) (RowS.mono hr_a0 (hE.ext hc)) (box_own hc (i:=2) rfl))) ?_
             refine DL.pu 75 (.bool t119) rfl (p_pick_t c117 rfl rfl rfl) ?_
             obtain rfl:=Option.some.inj h121
             exact DL.weak J116 (Sub.cons rfl (Sub.cons rfl (Sub.cons rfl (Sub.cons rfl (Sub.cons rfl (Sub.nil _))))))
            ·
             replace c117:=Bool.eq_false_iff.mpr c117
             have h122:=ite_false c117 h114
             refine DL.not (i:=5) rfl (Wn.no c117 rfl rfl rfl rfl) rfl rfl ?_
             refine DL.not (i:=6) rfl (Wn.no c117 rfl rfl rfl rfl) rfl rfl ?_
             refine DL.not (i:=7) rfl (Wn.no c117 rfl rfl rfl rfl) rfl rfl ?_
             refine DL.not (i:=8) rfl (Wn.no c117 rfl rfl rfl rfl) rfl rfl ?_
             refine DL.pu 75 (.bool false) rfl (p_pick_f c117 rfl rfl rfl) ?_
             obtain rfl:=Option.some.inj h122
             exact DL.weak J116 (Sub.cons rfl (Sub.cons rfl (Sub.cons rfl (Sub.cons rfl (Sub.cons rfl (Sub.nil _))))))
        ·
         by_cases c91 : (!(t83 == q72)) = true
         ·
          have h92:=ite_true c91 h88
          refine DL.not (i:=7) rfl (Wn.yes c91 rfl rfl rfl rfl) rfl rfl ?_
          refine DL.not (i:=8) rfl (Wn.yes c91 rfl rfl rfl rfl) rfl rfl ?_
          refine DL.not (i:=9) rfl (Wn.yes c91 rfl rfl rfl rfl) rfl rfl ?_
          refine DL.not (i:=10) rfl (Wn.yes c91 rfl rfl rfl rfl) rfl rfl ?_
          refine DL.not (i:=11) rfl (Wn.yes c91 rfl rfl rfl rfl) rfl rfl ?_
          refine DL.not (i:=12) rfl (Wn.yes c91 rfl rfl rfl rfl) rfl rfl ?_
          refine DL.not (i:=13) rfl (Wn.yes c91 rfl rfl rfl rfl) rfl rfl ?_
          refine DL.not (i:=14) rfl (Wn.yes c91 rfl rfl rfl rfl) rfl rfl ?_
          refine DL.not (i:=15) rfl (Wn.yes c91 rfl rfl rfl rfl) rfl rfl ?_
          refine DL.pu 62 (.bool true) rfl (p_pick_t c91 rfl rfl rfl) ?_
          obtain rfl:=Option.some.inj h92
          exact DL.weak J90 (Sub.cons rfl (Sub.cons rfl (Sub.cons rfl (Sub.cons rfl (Sub.cons rfl (Sub.cons rfl (Sub.nil _)))))))
         ·
          replace c91:=Bool.eq_false_iff.mpr c91
          have h93:=ite_false c91 h88
          refine DL.pure (v:=.func (.func 21) #[] #[ptr b1 0]) rfl (Wn.no c91 rfl rfl rfl rfl) rfl rfl rfl (p_move rfl rfl) ?_
          refine DL.look (v:=.agg (Tm.ce a1 a1_2)) (x:=1) (b:=b2) (i:=8) rfl (Wn.no c91 rfl rfl rfl rfl) rfl rfl rfl rfl rfl (List.mem_of_getElem? (i:=1) rfl) (b_loadA ty_a25 ty_s25 rfl rfl rfl) ?_
          refine DL.look (v:=.agg (Tm.ce a2 a2_2)) (x:=0) (b:=b3) (i:=9) rfl (Wn.no c91 rfl rfl rfl rfl) rfl rfl rfl rfl rfl (List.mem_of_getElem? (i:=0) rfl) (b_loadA ty_a25 ty_s25 rfl rfl rfl) ?_
          obtain ⟨t94,h95,h96⟩:=bind_some h93
          refine DL.quiet (v:=.bool t94) rfl (Wn.no c91 rfl rfl rfl rfl) rfl rfl rfl (f_callV (by simp) rfl rfl rfl (args_val (vs:=[.int .i64 8,.agg (Tm.ce a1 a1_2),.agg (Tm.ce a2 a2_2)]) rfl) (fun w => enter21 _ w) (fun w hc => law29_makes.val h95 (M:=heapOf w) w (Ext.refl _) (Glob.mono hG (hE.ext hc)) (RowS.mono hr_a1_2 (hE.ext hc)) (RowS.mono hr_a2_2 (hE.ext hc)) (RowS.mono hr_a0 (hE.ext hc)) (box_own hc (i:=2) rfl))) ?_
          refine DL.pure (v:=.func (.func 21) #[] #[ptr b1 0]) rfl (Wn.no c91 rfl rfl rfl rfl) rfl rfl rfl (p_move rfl rfl) ?_
          refine DL.look (v:=.agg (Tm.ce a2 a2_2)) (x:=0) (b:=b3) (i:=12) rfl (Wn.no c91 rfl rfl rfl rfl) rfl rfl rfl rfl rfl (List.mem_of_getElem? (i:=0) rfl) (b_loadA ty_a25 ty_s25 rfl rfl rfl) ?_
          refine DL.look (v:=.agg (Tm.ce a1 a1_2)) (x:=1) (b:=b2) (i:=13) rfl (Wn.no c91 rfl rfl rfl rfl) rfl rfl rfl rfl rfl (List.mem_of_getElem? (i:=1) rfl) (b_loadA ty_a25 ty_s25 rfl rfl rfl) ?_
          obtain ⟨t97,h98,h99⟩:=bind_some h96
          refine DL.quiet (v:=.bool t97) rfl (Wn.no c91 rfl rfl rfl rfl) rfl rfl rfl (f_callV (by simp) rfl rfl rfl (args_val (vs:=[.int .i64 8,.agg (Tm.ce a2 a2_2),.agg (Tm.ce a1 a1_2)]) rfl) (fun w => enter21 _ w) (fun w hc => law29_makes.val h98 (M:=heapOf w) w (Ext.refl _) (Glob.mono hG (hE.ext hc)) (RowS.mono hr_a2_2 (hE.ext hc)) (RowS.mono hr_a1_2 (hE.ext hc)) (RowS.mono hr_a0 (hE.ext hc)) (box_own hc (i:=2) rfl))) ?_
          refine DL.pure (v:=.bool (!(t94 == t97))) rfl (Wn.no c91 rfl rfl rfl rfl) rfl rfl rfl (p_neb ty_u4 rfl rfl rfl) ?_
          refine DL.pu 62 (.bool (!(t94 == t97))) rfl (p_pick_f c91 rfl rfl rfl) ?_
          obtain rfl:=Option.some.inj h99
          exact DL.weak J90 (Sub.cons rfl (Sub.cons rfl (Sub.cons rfl (Sub.cons rfl (Sub.cons rfl (Sub.cons rfl (Sub.nil _)))))))
       ·
        by_cases c76 : t68 = true
        ·
         have h77:=ite_true c76 h73
         refine DL.quiet (v:=.agg (Tm.ce a2 a2_2)) rfl (Wn.yes c76 rfl rfl rfl rfl) rfl rfl rfl (f_loadA (j:=0) ty_a25 ty_s25 rfl rfl rfl rfl) ?_
         refine DL.quiet (v:=a0_v) rfl (Wn.yes c76 rfl rfl rfl rfl) rfl rfl rfl (f_load (j:=2) ty_a22 rfl rfl rfl rfl) ?_
         obtain ⟨t78,h79,h80⟩:=bind_some h77
         refine DL.quiet (v:=.bool t78) rfl (Wn.yes c76 rfl rfl rfl rfl) rfl rfl rfl (f_callR rfl rfl (args_val (vs:=[.agg (Tm.ce a2 a2_2),a0_v]) rfl) (fun w => enter16 _ w) (fun w hc => terms_Can.val h79 (M:=M) w (hE.ext hc) hG hr_a2_2 hr_a0)) ?_
         refine DL.pu 45 (.bool t78) rfl (p_pick_t c76 rfl rfl rfl) ?_
         obtain rfl:=Option.some.inj h80
         exact DL.weak J75 (Sub.cons rfl (Sub.cons rfl (Sub.cons rfl (Sub.cons rfl (Sub.cons rfl (Sub.nil _))))))
        ·
         replace c76:=Bool.eq_false_iff.mpr c76
         have h81:=ite_false c76 h73
         refine DL.not (i:=4) rfl (Wn.no c76 rfl rfl rfl rfl) rfl rfl ?_
         refine DL.not (i:=5) rfl (Wn.no c76 rfl rfl rfl rfl) rfl rfl ?_
         refine DL.not (i:=6) rfl (Wn.no c76 rfl rfl rfl rfl) rfl rfl ?_
         refine DL.pu 45 (.bool false) rfl (p_pick_f c76 rfl rfl rfl) ?_
         obtain rfl:=Option.some.inj h81
         exact DL.weak J75 (Sub.cons rfl (Sub.cons rfl (Sub.cons rfl (Sub.cons rfl (Sub.cons rfl (Sub.nil _))))))
     ·
      by_cases c56 : q41 = true
      ·
       have h57:=ite_true c56 h53
       refine DL.not (i:=23) rfl (Wn.yes c56 rfl rfl rfl rfl) rfl rfl ?_
       refine DL.not (i:=24) rfl (Wn.yes c56 rfl rfl rfl rfl) rfl rfl ?_
       refine DL.not (i:=25) rfl (Wn.yes c56 rfl rfl rfl rfl) rfl rfl ?_
       refine DL.pu 35 (.bool true) rfl (p_pick_t c56 rfl rfl rfl) ?_
       obtain rfl:=Option.some.inj h57
       exact DL.weak J55 (Sub.cons rfl (Sub.cons rfl (Sub.cons rfl (Sub.cons rfl (Sub.nil _)))))
      ·
       replace c56:=Bool.eq_false_iff.mpr c56
       have h58:=ite_false c56 h53
       refine DL.quiet (v:=.agg (Tm.ce a2 a2_2)) rfl (Wn.no c56 rfl rfl rfl rfl) rfl rfl rfl (f_loadA (j:=0) ty_a25 ty_s25 rfl rfl rfl rfl) ?_
       obtain ⟨t59,h60,h61⟩:=bind_some h58
       refine DL.quiet (v:=.bool t59) rfl (Wn.no c56 rfl rfl rfl rfl) rfl rfl rfl (f_callR rfl rfl (args_val (vs:=[.agg (Tm.ce a2 a2_2)]) rfl) (fun w => enter15 _ w) (fun w hc => ref29_May.val h60 (M:=M) w (hE.ext hc) hr_a2_2)) ?_
       refine DL.pure (v:=.bool (!t59)) rfl (Wn.no c56 rfl rfl rfl rfl) rfl rfl rfl (p_not rfl rfl) ?_
       refine DL.pu 35 (.bool (!t59)) rfl (p_pick_f c56 rfl rfl rfl) ?_
       obtain rfl:=Option.some.inj h61
       exact DL.weak J55 (Sub.cons rfl (Sub.cons rfl (Sub.cons rfl (Sub.cons rfl (Sub.nil _)))))
    ·
     by_cases c45 : q30 = true
     ·
      have h46:=ite_true c45 h42
      refine DL.not (i:=18) rfl (Wn.yes c45 rfl rfl rfl rfl) rfl rfl ?_
      refine DL.not (i:=19) rfl (Wn.yes c45 rfl rfl rfl rfl) rfl rfl ?_
      refine DL.not (i:=20) rfl (Wn.yes c45 rfl rfl rfl rfl) rfl rfl ?_
      refine DL.pu 30 (.bool true) rfl (p_pick_t c45 rfl rfl rfl) ?_
      obtain rfl:=Option.some.inj h46
      exact DL.weak J44 (Sub.cons rfl (Sub.cons rfl (Sub.cons rfl (Sub.cons rfl (Sub.nil _)))))
     ·
      replace c45:=Bool.eq_false_iff.mpr c45
      have h47:=ite_false c45 h42
      refine DL.quiet (v:=.agg (Tm.ce a1 a1_2)) rfl (Wn.no c45 rfl rfl rfl rfl) rfl rfl rfl (f_loadA (j:=1) ty_a25 ty_s25 rfl rfl rfl rfl) ?_
      obtain ⟨t48,h49,h50⟩:=bind_some h47
      refine DL.quiet (v:=.bool t48) rfl (Wn.no c45 rfl rfl rfl rfl) rfl rfl rfl (f_callR rfl rfl (args_val (vs:=[.agg (Tm.ce a1 a1_2)]) rfl) (fun w => enter15 _ w) (fun w hc => ref29_May.val h49 (M:=M) w (hE.ext hc) hr_a1_2)) ?_
      refine DL.pure (v:=.bool (!t48)) rfl (Wn.no c45 rfl rfl rfl rfl) rfl rfl rfl (p_not rfl rfl) ?_
      refine DL.pu 30 (.bool (!t48)) rfl (p_pick_f c45 rfl rfl rfl) ?_
      obtain rfl:=Option.some.inj h50
      exact DL.weak J44 (Sub.cons rfl (Sub.cons rfl (Sub.cons rfl (Sub.cons rfl (Sub.nil _)))))
   ·
    by_cases c34 : q19 = true
    ·
     have h35:=ite_true c34 h31
     refine DL.not (i:=13) rfl (Wn.yes c34 rfl rfl rfl rfl) rfl rfl ?_
     refine DL.not (i:=14) rfl (Wn.yes c34 rfl rfl rfl rfl) rfl rfl ?_
     refine DL.not (i:=15) rfl (Wn.yes c34 rfl rfl rfl rfl) rfl rfl ?_
     refine DL.pu 25 (.bool true) rfl (p_pick_t c34 rfl rfl rfl) ?_
     obtain rfl:=Option.some.inj h35
     exact DL.weak J33 (Sub.cons rfl (Sub.cons rfl (Sub.cons rfl (Sub.cons rfl (Sub.nil _)))))
    ·
     replace c34:=Bool.eq_false_iff.mpr c34
     have h36:=ite_false c34 h31
     refine DL.quiet (v:=a0_v) rfl (Wn.no c34 rfl rfl rfl rfl) rfl rfl rfl (f_load (j:=2) ty_a22 rfl rfl rfl rfl) ?_
     obtain ⟨t37,h38,h39⟩:=bind_some h36
     refine DL.quiet (v:=.bool t37) rfl (Wn.no c34 rfl rfl rfl rfl) rfl rfl rfl (f_callR rfl rfl (args_val (vs:=[a0_v]) rfl) (fun w => enter14 _ w) (fun w hc => law29_all.val h38 (M:=M) w (hE.ext hc) hr_a0)) ?_
     refine DL.pure (v:=.bool (!t37)) rfl (Wn.no c34 rfl rfl rfl rfl) rfl rfl rfl (p_not rfl rfl) ?_
     refine DL.pu 25 (.bool (!t37)) rfl (p_pick_f c34 rfl rfl rfl) ?_
     obtain rfl:=Option.some.inj h39
     exact DL.weak J33 (Sub.cons rfl (Sub.cons rfl (Sub.cons rfl (Sub.cons rfl (Sub.nil _)))))
  ·
   by_cases c23 : q8 = true
   ·
    have h24:=ite_true c23 h20
    refine DL.not (i:=8) rfl (Wn.yes c23 rfl rfl rfl rfl) rfl rfl ?_
    refine DL.not (i:=9) rfl (Wn.yes c23 rfl rfl rfl rfl) rfl rfl ?_
    refine DL.not (i:=10) rfl (Wn.yes c23 rfl rfl rfl rfl) rfl rfl ?_
    refine DL.pu 20 (.bool true) rfl (p_pick_t c23 rfl rfl rfl) ?_
    obtain rfl:=Option.some.inj h24
    exact DL.weak J22 (Sub.cons rfl (Sub.cons rfl (Sub.cons rfl (Sub.cons rfl (Sub.nil _)))))
   ·
    replace c23:=Bool.eq_false_iff.mpr c23
    have h25:=ite_false c23 h20
    refine DL.quiet (v:=.agg (Tm.ce a2 a2_2)) rfl (Wn.no c23 rfl rfl rfl rfl) rfl rfl rfl (f_loadA (j:=0) ty_a25 ty_s25 rfl rfl rfl rfl) ?_
    obtain ⟨t26,h27,h28⟩:=bind_some h25
    refine DL.quiet (v:=.int .i64 t26) rfl (Wn.no c23 rfl rfl rfl rfl) rfl rfl rfl (f_callR rfl rfl (args_val (vs:=[.agg (Tm.ce a2 a2_2),.int .i64 301]) rfl) (fun w => enter13 _ w) (fun w hc => ref29_Size.val h27 (M:=M) w (hE.ext hc) hr_a2_2)) ?_
    refine DL.pure (v:=.bool (decide (300 < t26))) rfl (Wn.no c23 rfl rfl rfl rfl) rfl rfl rfl (p_gtr rfl rfl rfl) ?_
    refine DL.pu 20 (.bool (decide (300 < t26))) rfl (p_pick_f c23 rfl rfl rfl) ?_
    obtain rfl:=Option.some.inj h28
    exact DL.weak J22 (Sub.cons rfl (Sub.cons rfl (Sub.cons rfl (Sub.cons rfl (Sub.nil _)))))
 ·
  by_cases c12 : t4 = true
  ·
   have h13:=ite_true c12 h9
   refine DL.not (i:=3) rfl (Wn.yes c12 rfl rfl rfl rfl) rfl rfl ?_
   refine DL.not (i:=4) rfl (Wn.yes c12 rfl rfl rfl rfl) rfl rfl ?_
   refine DL.not (i:=5) rfl (Wn.yes c12 rfl rfl rfl rfl) rfl rfl ?_
   refine DL.pu 15 (.bool true) rfl (p_pick_t c12 rfl rfl rfl) ?_
   obtain rfl:=Option.some.inj h13
   exact DL.weak J11 (Sub.cons rfl (Sub.cons rfl (Sub.cons rfl (Sub.cons rfl (Sub.nil _)))))
  ·
   replace c12:=Bool.eq_false_iff.mpr c12
   have h14:=ite_false c12 h9
   refine DL.quiet (v:=.agg (Tm.ce a1 a1_2)) rfl (Wn.no c12 rfl rfl rfl rfl) rfl rfl rfl (f_loadA (j:=1) ty_a25 ty_s25 rfl rfl rfl rfl) ?_
   obtain ⟨t15,h16,h17⟩:=bind_some h14
   refine DL.quiet (v:=.int .i64 t15) rfl (Wn.no c12 rfl rfl rfl rfl) rfl rfl rfl (f_callR rfl rfl (args_val (vs:=[.agg (Tm.ce a1 a1_2),.int .i64 301]) rfl) (fun w => enter13 _ w) (fun w hc => ref29_Size.val h16 (M:=M) w (hE.ext hc) hr_a1_2)) ?_
   refine DL.pure (v:=.bool (decide (300 < t15))) rfl (Wn.no c12 rfl rfl rfl rfl) rfl rfl rfl (p_gtr rfl rfl rfl) ?_
   refine DL.pu 15 (.bool (decide (300 < t15))) rfl (p_pick_f c12 rfl rfl rfl) ?_
   obtain rfl:=Option.some.inj h17
   exact DL.weak J11 (Sub.cons rfl (Sub.cons rfl (Sub.cons rfl (Sub.cons rfl (Sub.nil _)))))
theorem law29_TermsMakes.val {a0 : List Tm} {a1 : Tm} {a2 : Tm} {a0_v : Value} {a1_2 : Value} {a2_2 : Value} {r : Bool} (h : law29_TermsMakes.f a0 a1 a2 = some r) {M : Mem} (w : World) (hM : Ext M (heapOf w)) (hG : Glob M) (hr_a0 : RowS ShTm M a0_v a0) (hr_a1_2 : RowS ShTm M a1_2 (Tree.kids a1)) (hr_a2_2 : RowS ShTm M a2_2 (Tree.kids a2)) : Calls Tryd.prog 6 #[a0_v,.agg (Tm.ce a1 a1_2),.agg (Tm.ce a2 a2_2)] w fun e w' => e = .returned (.bool r) ∧ Below w.heap.size w w' :=
 calls_value (law29_TermsMakes.ok h w hM hG hr_a0 hr_a1_2 hr_a2_2)

end Go.Proofs.YtfbogkhgfaibbaaDoor
