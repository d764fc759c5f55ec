import Derived.Test.YtfbogkhgfaibbaaDoorTg1
namespace Go.Proofs.YtfbogkhgfaibbaaDoor
open Go Go.HW Go.RowKit
set_option linter.unusedVariables false
set_option linter.unusedSimpArgs false

/-! ### escutcheon/escutcheonlaw29.TermsLooks: function 9 -/
noncomputable def B9 : Code:=bodyOf Tryd.f9
def law29_TermsLooks.f (a0 : Tm) (a1 : Tm) (a2 : List UInt8) : Option (Bool):=(ref29_Size.f (Tm.fuel a0) a0 301).bind fun t3 => (if (decide (300 < t3)) = true then (some true) else ((ref29_Size.f (Tm.fuel a1) a1 301).bind fun t14 => some (decide (300 < t14)))).bind fun q7 => (if q7 = true then (some true) else (some (decide (3000 < (a2.length : Int))))).bind fun q18 => if q18 = true then ((law29_known.f).bind fun t27 => some t27) else ((terms_Text.f a0).bind fun (t31_0,t31_1) => (terms_Of.f a2).bind fun (t34_0,t34_1) => (ref29_Of.f a2).bind fun (t40_0,t40_1) => (terms_May.f a0).bind fun t47 => (ref29_May.f a0).bind fun t50 => (if (!(t47 == t50)) = true then (some true) else ((ref29_Equal.f (Tm.fuel t34_0) t34_0 t40_0).bind fun t61 => some (!t61))).bind fun q54 => (if q54 = true then (some true) else ((law29_num.f t34_1).bind fun t72 => some (!((t72 == 0) == t40_1)))).bind fun q65 => (if q65 = true then (some true) else ((if (!t40_1) = true then ((law29_num.f t34_1).bind fun t90 => some (t90 != 4)) else (some false)).bind fun q84 => some q84)).bind fun q76 => if q76 = true then (some false) else ((ref29_May.f a0).bind fun t97 => (if t97 = true then ((ref29_May.f a1).bind fun t107 => some t107) else (some false)).bind fun q101 => (terms_Same.f a0 a1).bind fun t112 => (if q101 = true then ((ref29_Order.f (Tm.fuel a0) a0).bind fun t122 => (ref29_Order.f (Tm.fuel a1) a1).bind fun t126 => (ref29_Equal.f (Tm.fuel t122) t122 t126).bind fun t130 => some t130) else (some false)).bind fun q116 => if (!(t112 == q116)) = true then (some false) else ((ref29_May.f a0).bind fun t138 => if (!t138) = true then ((if (t31_0 == ([] : List UInt8)) = true then ((law29_num.f t31_1).bind fun t151 => some (t151 == 2)) else (some false)).bind fun q145 => (if q145 = true then ((terms_Order.f a0).bind fun t162 => (ref29_Equal.f (Tm.fuel t162) t162 a0).bind fun t166 => some t166) else (some false)).bind fun q156 => (if q156 = true then ((law29_known.f).bind fun t177 => some t177) else (some false)).bind fun q171 => some q171) else ((ref29_Text.f (Tm.fuel a0) a0).bind fun t184 => (if (t31_0 == t184) = true then ((law29_num.f t31_1).bind fun t194 => some (t194 == 0)) else (some false)).bind fun q188 => (if q188 = true then ((terms_Order.f a0).bind fun t205 => (ref29_Order.f (Tm.fuel a0) a0).bind fun t209 => (ref29_Equal.f (Tm.fuel t205) t205 t209).bind fun t213 => some t213) else (some false)).bind fun q199 => (if q199 = true then ((law29_known.f).bind fun t224 => some t224) else (some false)).bind fun q218 => some q218))))
set_option maxRecDepth 20000 in
theorem law29_TermsLooks.ok {a0 : Tm} {a1 : Tm} {a2 : List UInt8} {a0_2 : Value} {a1_2 : Value} {r : Bool} (h : law29_TermsLooks.f a0 a1 a2 = some r) {M : Mem} (w : World) (hM : Ext M (heapOf w)) (hG : GlobE M) (hr_a0_2 : RowS ShTm M a0_2 (Tree.kids a0)) (hr_a1_2 : RowS ShTm M a1_2 (Tree.kids a1)) : Calls Tryd.prog 9 #[.agg (Tm.ce a0 a0_2),.agg (Tm.ce a1 a1_2),str a2] w (Post (fun u => u = .bool r) w):=by
 unfold law29_TermsLooks.f at h
 have hE:=Env.start hM
 refine calls_of_TT (N:=126) (S:=[(0,.agg (Tm.ce a0 a0_2)),(1,.agg (Tm.ce a1 a1_2)),(2,str a2)]) (c:=B9) Tryd.func9 rfl rfl rfl (by simp) ?_
 show TT _ _ _ _ _ _ [.code (sub [] B9)] _ _
 refine TT.seq (x:=sub [0] B9) (y:=sub [1] B9) ?_
 refine TT.rg [0,1,2] [(.alloc,none),(.alloc,none),kp] rfl rfl ?_
 refine DL.new (ob:=.cells ((Tm.ce a0 a0_2)) 25) (mk:=fun b => ptr b 0) (i:=0) rfl (Wn.none rfl) rfl rfl rfl (f_box (v:=.agg (Tm.ce a0 a0_2)) rfl rfl) ?_
 intro b1 hb1
 refine DL.new (ob:=.cells ((Tm.ce a1 a1_2)) 25) (mk:=fun b => ptr b 0) (i:=1) rfl (Wn.none rfl) rfl rfl rfl (f_box (v:=.agg (Tm.ce a1 a1_2)) rfl rfl) ?_
 intro b2 hb2
 refine DL.pu 6 (.bool false) rfl (p_assign rfl rfl) ?_
 refine DL.nil ?_
 refine TT.seq (x:=sub [1,0] B9) (y:=sub [1,1] B9) ?_
 refine TT.seq (x:=sub [1,0,0] B9) (y:=sub [1,0,1] B9) ?_
 refine TT.rg [0,1,2,3,4,5,6,7,8,9,10,11,12] [kq,kq,kp,kp,kq,kq,kp,kp,kp,kp,kp,kp,kp] rfl rfl ?_
 refine DL.qu 14 (.agg (Tm.ce a0 a0_2)) rfl (f_loadA (j:=1) ty_a25 ty_s25 rfl rfl rfl rfl) ?_
 obtain ⟨t3,h4,h5⟩:=bind_some h
 refine DL.qu 15 (.int .i64 t3) rfl (f_callR rfl rfl (args_val (vs:=[.agg (Tm.ce a0 a0_2),.int .i64 301]) rfl) (fun w => enter13 _ w) (fun w hc => ref29_Size.val h4 (M:=M) w (hE.ext hc) hr_a0_2)) ?_
 refine DL.pu 16 (.bool (decide (300 < t3))) rfl (p_gtr rfl rfl rfl) ?_
 refine DL.mv 17 (.bool (decide (300 < t3))) rfl rfl rfl ?_
 obtain ⟨q7,h8,h9⟩:=bind_some h5
 refine DL.cut [(2,str a2),(3,ptr b1 0),(4,ptr b2 0),(21,.bool q7)] [8,9,10,11,12] ?_ (fun J10 => ?_)
 ·
  refine DL.mv 22 (.bool q7) rfl rfl rfl ?_
  obtain ⟨q18,h19,h20⟩:=bind_some h9
  refine DL.cut [(2,str a2),(3,ptr b1 0),(4,ptr b2 0),(26,.bool q18)] [] ?_ (fun J21 => ?_)
  ·
   refine DL.nil ?_
   by_cases c25 : q18 = true
   ·
    have h26:=ite_true c25 h20
    refine TT.cond_true (x:=sub [1,0,1,0] B9) (y:=sub [1,0,1,1] B9) rfl c25 ?_
    refine TT.seq (x:=sub [1,0,1,0,0] B9) (y:=sub [1,0,1,0,1] B9) ?_
    refine TT.rg [0,1] [kq,kp] rfl rfl ?_
    obtain ⟨t27,h28,h29⟩:=bind_some h26
    refine DL.qu 27 (.bool t27) rfl (f_callR rfl rfl (args_val (vs:=[]) rfl) (fun w => enter11 _ w) (fun w hc => law29_known.val h28 (M:=M) w (hE.ext hc) hG.g)) ?_
    refine DL.pu 6 (.bool t27) rfl (p_assign rfl rfl) ?_
    refine DL.nil ?_
    obtain rfl:=Option.some.inj h29
    exact retnE (rs:=[.tmp 6]) (vs:=[.bool t27]) hE.base Tryd.func9 rfl rfl rfl (res_cons (ResV.tmp rfl) res_nil) rfl
   ·
    replace c25:=Bool.eq_false_iff.mpr c25
    have h30:=ite_false c25 h20
    refine TT.cond_false (x:=sub [1,0,1,0] B9) (y:=sub [1,0,1,1] B9) rfl c25 ?_
    refine TT.skip ?_
    refine TT.seq (x:=sub [1,1,0] B9) (y:=sub [1,1,1] B9) ?_
    refine TT.rg [0,1,2,3,4,5,6] [kq,kq,kp,kp,kp,kp,kp] rfl rfl ?_
    refine DL.qu 29 (.agg (Tm.ce a0 a0_2)) rfl (f_loadA (j:=1) ty_a25 ty_s25 rfl rfl rfl rfl) ?_
    obtain ⟨⟨t31_0,t31_1⟩,h32,h33⟩:=bind_some h30
    refine DL.qu 30 (.tuple #[str t31_0,.int .i64 t31_1]) rfl (f_callR rfl rfl (args_val (vs:=[.agg (Tm.ce a0 a0_2)]) rfl) (fun w => enter28 _ w) (fun w hc => terms_Text.val h32 (M:=M) w (hE.ext hc) hG.g hr_a0_2)) ?_
    refine DL.mv 28 (.tuple #[str t31_0,.int .i64 t31_1]) rfl rfl rfl ?_
    refine DL.pu 31 (str t31_0) rfl (p_extract rfl rfl rfl) ?_
    refine DL.pu 32 (.int .i64 t31_1) rfl (p_extract rfl rfl rfl) ?_
    refine DL.pu 7 (str t31_0) rfl (p_assign rfl rfl) ?_
    refine DL.pu 8 (.int .i64 t31_1) rfl (p_assign rfl rfl) ?_
    refine DL.nil ?_
    refine TT.seq (x:=sub [1,1,1,0] B9) (y:=sub [1,1,1,1] B9) ?_
    refine TT.rg [0,1,2,3,4,5,6,7] [kp,kk,kp,kp,kp,(.alloc,none),(.store,none),kp] rfl rfl ?_
    refine DL.mv 34 (str a2) rfl rfl rfl ?_
    obtain ⟨⟨t34_0,t34_1⟩,h35,h36⟩:=bind_some h33
    refine DL.callF (G:=Value) (u:=fun g => .tuple #[.agg (Tm.ce t34_0 g),.int .i64 t34_1]) (Q:=fun g M_ => (RowS ShTm M_ g (Tree.kids t34_0))) (A:=[(some b2,.cells ((Tm.ce a1 a1_2)) 25 (0,0)),(some b1,.cells ((Tm.ce a0 a0_2)) 25 (0,0))]) (J:=[]) (fun J37 => ((some b2,.cells ((Tm.ce a1 a1_2)) 25 (0,0)) :: (some b1,.cells ((Tm.ce a0 a0_2)) 25 (0,0)) :: J37)) (Nat.le_refl _) hE.nil (List.append_nil _).symm (fun _ => rfl) (by simp [kind_mk,num_mk]) (i:=1) rfl (Wn.none rfl) rfl rfl rfl rfl rfl rfl (args_val (vs:=[str a2]) rfl) (fun w => enter29 _ w) (fun w hc hI => terms_Of.ok h35 (M:=M) w hI hG) ?_
    rintro t34_0_2 M37 J37 hE37 hx37 hr_t34_0_2
    show DL _ _ _ _ _ _ _ _ _ _ _ _ ((some b2,.cells ((Tm.ce a1 a1_2)) 25 (0,0)) :: (some b1,.cells ((Tm.ce a0 a0_2)) 25 (0,0)) :: J37)
    refine DL.mv 33 (.tuple #[.agg (Tm.ce t34_0 t34_0_2),.int .i64 t34_1]) rfl rfl rfl ?_
    refine DL.pu 36 (.agg (Tm.ce t34_0 t34_0_2)) rfl (p_extract rfl rfl rfl) ?_
    refine DL.pu 37 (.int .i64 t34_1) rfl (p_extract rfl rfl rfl) ?_
    refine DL.new (ob:=.cells (#[.int .i64 0,.int .i64 0,(.slice none 0 0)]) 25) (mk:=fun b => ptr b 0) (i:=5) rfl (Wn.none rfl) rfl rfl rfl (f_alloc ty_z25 rfl) ?_
    intro b38 hb38
    refine DL.put (H':=((some b38,.cells ((Tm.ce t34_0 t34_0_2)) 25 (0,0)) :: (some b2,.cells ((Tm.ce a1 a1_2)) 25 (0,0)) :: (some b1,.cells ((Tm.ce a0 a0_2)) 25 (0,0)) :: J37)) (i:=6) rfl (Wn.none rfl) rfl rfl (f_storeA (j:=0) ty_s25 rfl rfl rfl (one_cons trivial (one_cons trivial (one_cons (sl_one (RowS.sl hr_t34_0_2)) one_nil))) rfl rfl rfl) (keep_none rfl) ?_
    refine DL.pu 10 (.int .i64 t34_1) rfl (p_assign rfl rfl) ?_
    refine DL.nil ?_
    refine TT.settle (A:=[(some b38,.cells ((Tm.ce t34_0 t34_0_2)) 25 (0,0)),(some b2,.cells ((Tm.ce a1 a1_2)) 25 (0,0)),(some b1,.cells ((Tm.ce a0 a0_2)) 25 (0,0))]) (J:=J37) hE37 ?_
    intro I39 hE39 hxI39
    refine TT.seq (x:=sub [1,1,1,1,0] B9) (y:=sub [1,1,1,1,1] B9) ?_
    refine TT.rg [0,1,2,3,4,5,6,7] [kp,kk,kp,kp,kp,(.alloc,none),(.store,none),kp] rfl rfl ?_
    refine DL.mv 39 (str a2) rfl rfl rfl ?_
    obtain ⟨⟨t40_0,t40_1⟩,h41,h42⟩:=bind_some h36
    refine DL.callF (G:=Value) (u:=fun g => .tuple #[.agg (Tm.ce t40_0 g),.bool t40_1]) (Q:=fun g M_ => (RowS ShTm M_ g (Tree.kids t40_0))) (A:=[(some b38,.cells ((Tm.ce t34_0 t34_0_2)) 25 (0,0)),(some b2,.cells ((Tm.ce a1 a1_2)) 25 (0,0)),(some b1,.cells ((Tm.ce a0 a0_2)) 25 (0,0))]) (J:=[]) (fun J43 => ((some b38,.cells ((Tm.ce t34_0 t34_0_2)) 25 (0,0)) :: (some b2,.cells ((Tm.ce a1 a1_2)) 25 (0,0)) :: (some b1,.cells ((Tm.ce a0 a0_2)) 25 (0,0)) :: J43)) (Nat.le_refl _) hE39.nil (List.append_nil _).symm (fun _ => rfl) (by simp [kind_mk,num_mk]) (i:=1) rfl (Wn.none rfl) rfl rfl rfl rfl rfl rfl (args_val (vs:=[str a2]) rfl) (fun w => enter30 _ w) (fun w hc hI => ref29_Of.ok h41 (M:=M37) w hI (Glob.mono hG.g hx37)) ?_
    rintro t40_0_2 M43 J43 hE43 hx43 hr_t40_0_2
    show DL _ _ _ _ _ _ _ _ _ _ _ _ ((some b38,.cells ((Tm.ce t34_0 t34_0_2)) 25 (0,0)) :: (some b2,.cells ((Tm.ce a1 a1_2)) 25 (0,0)) :: (some b1,.cells ((Tm.ce a0 a0_2)) 25 (0,0)) :: J43)
    refine DL.mv 38 (.tuple #[.agg (Tm.ce t40_0 t40_0_2),.bool t40_1]) rfl rfl rfl ?_
    refine DL.pu 41 (.agg (Tm.ce t40_0 t40_0_2)) rfl (p_extract rfl rfl rfl) ?_
    refine DL.pu 42 (.bool t40_1) rfl (p_extract rfl rfl rfl) ?_
    refine DL.new (ob:=.cells (#[.int .i64 0,.int .i64 0,(.slice none 0 0)]) 25) (mk:=fun b => ptr b 0) (i:=5) rfl (Wn.none rfl) rfl rfl rfl (f_alloc ty_z25 rfl) ?_
    intro b44 hb44
    refine DL.put (H':=((some b44,.cells ((Tm.ce t40_0 t40_0_2)) 25 (0,0)) :: (some b38,.cells ((Tm.ce t34_0 t34_0_2)) 25 (0,0)) :: (some b2,.cells ((Tm.ce a1 a1_2)) 25 (0,0)) :: (some b1,.cells ((Tm.ce a0 a0_2)) 25 (0,0)) :: J43)) (i:=6) rfl (Wn.none rfl) rfl rfl (f_storeA (j:=0) ty_s25 rfl rfl rfl (one_cons trivial (one_cons trivial (one_cons (sl_one (RowS.sl hr_t40_0_2)) one_nil))) rfl rfl rfl) (keep_none rfl) ?_
    refine DL.pu 12 (.bool t40_1) rfl (p_assign rfl rfl) ?_
    refine DL.nil ?_
    refine TT.settle (A:=[(some b44,.cells ((Tm.ce t40_0 t40_0_2)) 25 (0,0)),(some b38,.cells ((Tm.ce t34_0 t34_0_2)) 25 (0,0)),(some b2,.cells ((Tm.ce a1 a1_2)) 25 (0,0)),(some b1,.cells ((Tm.ce a0 a0_2)) 25 (0,0))]) (J:=J43) hE43 ?_
    intro I45 hE45 hxI45
    refine TT.seq (x:=sub [1,1,1,1,1,0] B9) (y:=sub [1,1,1,1,1,1] B9) ?_
    refine TT.seq (x:=sub [1,1,1,1,1,0,0] B9) (y:=sub [1,1,1,1,1,0,1] B9) ?_
    refine TT.rgD [0,1,2,3,4,5,6,7,8,9,10,11,12,13,14,15,16,17,18,19,20,21,22,23,24,25,26] [0,1,0,7,15,31,63,63,255,511,1023,2047,4095,8191,16383,4095,65535,131071,262143,524287,1048575,2097151,4194303,8388607,16777215,33554431,67108863] [(.look,some 3),kq,(.look,some 3),kq,kp,kp,(.look,some 1),(.look,some 0),kq,kp,kp,kp,kp,kq,kp,kp,kp,kp,kp,kp,kp,kp,kp,kq,kp,kp,kp] rfl mixed (by kernel_rfl) ?_
    intro w46 hl46 hj46 hz46
    refine DL.look (v:=.agg (Tm.ce a0 a0_2)) (x:=3) (b:=b1) (i:=0) rfl (Wn.none rfl) rfl rfl rfl rfl rfl (List.mem_of_getElem? (i:=3) rfl) (b_loadA ty_a25 ty_s25 rfl rfl rfl) ?_
    obtain ⟨t47,h48,h49⟩:=bind_some h42
    refine DL.qu 44 (.bool t47) rfl (f_callR rfl rfl (args_val (vs:=[.agg (Tm.ce a0 a0_2)]) rfl) (fun w => enter31 _ w) (fun w hc => terms_May.val h48 (M:=M43) w (hE45.ext hc) (RowS.mono hr_a0_2 (hx37.trans hx43)))) ?_
    refine DL.look (v:=.agg (Tm.ce a0 a0_2)) (x:=3) (b:=b1) (i:=2) rfl (Wn.none rfl) rfl rfl rfl rfl rfl (List.mem_of_getElem? (i:=3) rfl) (b_loadA ty_a25 ty_s25 rfl rfl rfl) ?_
    obtain ⟨t50,h51,h52⟩:=bind_some h49
    refine DL.qu 46 (.bool t50) rfl (f_callR rfl rfl (args_val (vs:=[.agg (Tm.ce a0 a0_2)]) rfl) (fun w => enter15 _ w) (fun w hc => ref29_May.val h51 (M:=M43) w (hE45.ext hc) (RowS.mono hr_a0_2 (hx37.trans hx43)))) ?_
    refine DL.pu 47 (.bool (!(t47 == t50))) rfl (p_neb ty_u4 rfl rfl rfl) ?_
    refine DL.mv 48 (.bool (!(t47 == t50))) rfl rfl rfl ?_
    obtain ⟨q54,h55,h56⟩:=bind_some h52
    refine DL.cut [(3,ptr b1 0),(4,ptr b2 0),(7,str t31_0),(8,.int .i64 t31_1),(10,.int .i64 t34_1),(12,.bool t40_1),(53,.bool q54)] [11,12,13,14,15,16,17,18,19,20,21,22,23,24,25,26] ?_ (fun J57 => ?_)
    ·
     refine DL.mv 54 (.bool q54) rfl rfl rfl ?_
     obtain ⟨q65,h66,h67⟩:=bind_some h56
     refine DL.cut [(3,ptr b1 0),(4,ptr b2 0),(7,str t31_0),(8,.int .i64 t31_1),(10,.int .i64 t34_1),(12,.bool t40_1),(60,.bool q65)] [18,19,20,21,22,23,24,25,26] ?_ (fun J68 => ?_)
     ·
      refine DL.mv 61 (.bool q65) rfl rfl rfl ?_
      obtain ⟨q76,h77,h78⟩:=bind_some h67
      refine DL.cut [(3,ptr b1 0),(4,ptr b2 0),(7,str t31_0),(8,.int .i64 t31_1),(69,.bool q76)] [] ?_ (fun J79 => ?_)
      ·
       refine DL.nil' hl46 ?_
       by_cases c94 : q76 = true
       ·
        have h95:=ite_true c94 h78
        refine TT.cond_true (x:=sub [1,1,1,1,1,0,1,0] B9) (y:=sub [1,1,1,1,1,0,1,1] B9) rfl c94 ?_
        refine TT.seq (x:=sub [1,1,1,1,1,0,1,0,0] B9) (y:=sub [1,1,1,1,1,0,1,0,1] B9) ?_
        refine TT.rg [0] [kp] rfl rfl ?_
        refine DL.pu 6 (.bool false) rfl (p_assign rfl rfl) ?_
        refine DL.nil ?_
        obtain rfl:=Option.some.inj h95
        exact retnE (rs:=[.tmp 6]) (vs:=[.bool false]) hE45.base Tryd.func9 rfl rfl rfl (res_cons (ResV.tmp rfl) res_nil) rfl
       ·
        replace c94:=Bool.eq_false_iff.mpr c94
        have h96:=ite_false c94 h78
        refine TT.cond_false (x:=sub [1,1,1,1,1,0,1,0] B9) (y:=sub [1,1,1,1,1,0,1,1] B9) rfl c94 ?_
        refine TT.skip ?_
        refine TT.seq (x:=sub [1,1,1,1,1,1,0] B9) (y:=sub [1,1,1,1,1,1,1] B9) ?_
        refine TT.rg [0,1,2,3,4,5,6] [kq,kq,kp,kq,kq,kp,kp] rfl rfl ?_
        refine DL.qu 70 (.agg (Tm.ce a0 a0_2)) rfl (f_loadA (j:=3) ty_a25 ty_s25 rfl rfl rfl rfl) ?_
        obtain ⟨t97,h98,h99⟩:=bind_some h96
        refine DL.qu 71 (.bool t97) rfl (f_callR rfl rfl (args_val (vs:=[.agg (Tm.ce a0 a0_2)]) rfl) (fun w => enter15 _ w) (fun w hc => ref29_May.val h98 (M:=M43) w (hE45.ext hc) (RowS.mono hr_a0_2 (hx37.trans hx43)))) ?_
        refine DL.mv 72 (.bool t97) rfl rfl rfl ?_
        obtain ⟨q101,h102,h103⟩:=bind_some h99
        refine DL.cut [(3,ptr b1 0),(4,ptr b2 0),(7,str t31_0),(8,.int .i64 t31_1),(75,.bool q101)] [6] ?_ (fun J104 => ?_)
        ·
         refine DL.pu 13 (.bool q101) rfl (p_assign rfl rfl) ?_
         refine DL.nil ?_
         refine TT.seq (x:=sub [1,1,1,1,1,1,1,0] B9) (y:=sub [1,1,1,1,1,1,1,1] B9) ?_
         refine TT.seq (x:=sub [1,1,1,1,1,1,1,0,0] B9) (y:=sub [1,1,1,1,1,1,1,0,1] B9) ?_
         refine TT.rgD [0,1,2,3,4,5,7,6,8,9,10,11] [0,0,3,0,15,31,63,31,255,511,1023,2047] [(.look,some 3),(.look,some 2),kq,kp,kp,(.look,some 3),kk,(.look,some 2),kk,kq,kp,kp] rfl mixed (by kernel_rfl) ?_
         intro w111 hl111 hj111 hz111
         refine DL.look (v:=.agg (Tm.ce a0 a0_2)) (x:=3) (b:=b1) (i:=0) rfl (Wn.none rfl) rfl rfl rfl rfl rfl (List.mem_of_getElem? (i:=3) rfl) (b_loadA ty_a25 ty_s25 rfl rfl rfl) ?_
         refine DL.look (v:=.agg (Tm.ce a1 a1_2)) (x:=2) (b:=b2) (i:=1) rfl (Wn.none rfl) rfl rfl rfl rfl rfl (List.mem_of_getElem? (i:=2) rfl) (b_loadA ty_a25 ty_s25 rfl rfl rfl) ?_
         obtain ⟨t112,h113,h114⟩:=bind_some h103
         refine DL.qu 78 (.bool t112) rfl (f_callR rfl rfl (args_val (vs:=[.agg (Tm.ce a0 a0_2),.agg (Tm.ce a1 a1_2)]) rfl) (fun w => enter32 _ w) (fun w hc => terms_Same.val h113 (M:=M43) w (hE45.ext hc) (Glob.mono hG.g (hx37.trans hx43)) (RowS.mono hr_a0_2 (hx37.trans hx43)) (RowS.mono hr_a1_2 (hx37.trans hx43)))) ?_
         refine DL.mv 79 (.bool q101) rfl rfl rfl ?_
         refine DL.mv 80 (.bool q101) rfl rfl rfl ?_
         obtain ⟨q116,h117,h118⟩:=bind_some h114
         refine DL.cutJ [(some b44,.cells ((Tm.ce t40_0 t40_0_2)) 25 (0,0)),(some b38,.cells ((Tm.ce t34_0 t34_0_2)) 25 (0,0)),(some b2,.cells ((Tm.ce a1 a1_2)) 25 (0,0)),(some b1,.cells ((Tm.ce a0 a0_2)) 25 (0,0))] M43 hE45 [(3,ptr b1 0),(7,str t31_0),(8,.int .i64 t31_1),(78,.bool t112),(86,.bool q116)] [11] ?_ (fun J119 => ?_)
         ·
          intro M120 J120 hE120 hx120
          show DL _ _ _ _ _ _ _ _ _ _ _ _ ((some b44,.cells ((Tm.ce t40_0 t40_0_2)) 25 (0,0)) :: (some b38,.cells ((Tm.ce t34_0 t34_0_2)) 25 (0,0)) :: (some b2,.cells ((Tm.ce a1 a1_2)) 25 (0,0)) :: (some b1,.cells ((Tm.ce a0 a0_2)) 25 (0,0)) :: J120)
          refine DL.pu 87 (.bool (!(t112 == q116))) rfl (p_neb ty_u4 rfl rfl rfl) ?_
          refine DL.nil' hl111 ?_
          refine TT.settle (A:=[(some b44,.cells ((Tm.ce t40_0 t40_0_2)) 25 (0,0)),(some b38,.cells ((Tm.ce t34_0 t34_0_2)) 25 (0,0)),(some b2,.cells ((Tm.ce a1 a1_2)) 25 (0,0)),(some b1,.cells ((Tm.ce a0 a0_2)) 25 (0,0))]) (J:=J120) hE120 ?_
          intro I134 hE134 hxI134
          by_cases c135 : (!(t112 == q116)) = true
          ·
           have h136:=ite_true c135 h118
           refine TT.cond_true (x:=sub [1,1,1,1,1,1,1,0,1,0] B9) (y:=sub [1,1,1,1,1,1,1,0,1,1] B9) rfl c135 ?_
           refine TT.seq (x:=sub [1,1,1,1,1,1,1,0,1,0,0] B9) (y:=sub [1,1,1,1,1,1,1,0,1,0,1] B9) ?_
           refine TT.rg [0] [kp] rfl rfl ?_
           refine DL.pu 6 (.bool false) rfl (p_assign rfl rfl) ?_
           refine DL.nil ?_
           obtain rfl:=Option.some.inj h136
           exact retnE (rs:=[.tmp 6]) (vs:=[.bool false]) hE134.base Tryd.func9 rfl rfl rfl (res_cons (ResV.tmp rfl) res_nil) rfl
          ·
           replace c135:=Bool.eq_false_iff.mpr c135
           have h137:=ite_false c135 h118
           refine TT.cond_false (x:=sub [1,1,1,1,1,1,1,0,1,0] B9) (y:=sub [1,1,1,1,1,1,1,0,1,1] B9) rfl c135 ?_
           refine TT.skip ?_
           refine TT.seq (x:=sub [1,1,1,1,1,1,1,1,0] B9) (y:=sub [1,1,1,1,1,1,1,1,1] B9) ?_
           refine TT.seq (x:=sub [1,1,1,1,1,1,1,1,0,0] B9) (y:=sub [1,1,1,1,1,1,1,1,0,1] B9) ?_
           refine TT.rg [0,1,2] [kq,kq,kp] rfl rfl ?_
           refine DL.qu 88 (.agg (Tm.ce a0 a0_2)) rfl (f_loadA (j:=3) ty_a25 ty_s25 rfl rfl rfl rfl) ?_
           obtain ⟨t138,h139,h140⟩:=bind_some h137
           refine DL.qu 89 (.bool t138) rfl (f_callR rfl rfl (args_val (vs:=[.agg (Tm.ce a0 a0_2)]) rfl) (fun w => enter15 _ w) (fun w hc => ref29_May.val h139 (M:=M120) w (hE134.ext hc) (RowS.mono hr_a0_2 ((hx37.trans hx43).trans hx120)))) ?_
           refine DL.pu 90 (.bool (!t138)) rfl (p_not rfl rfl) ?_
           refine DL.nil ?_
           by_cases c141 : (!t138) = true
           ·
            have h142:=ite_true c141 h140
            refine TT.cond_true (x:=sub [1,1,1,1,1,1,1,1,0,1,0] B9) (y:=sub [1,1,1,1,1,1,1,1,0,1,1] B9) rfl c141 ?_
            refine TT.seq (x:=sub [1,1,1,1,1,1,1,1,0,1,0,0] B9) (y:=sub [1,1,1,1,1,1,1,1,0,1,0,1] B9) ?_
            refine TT.rgD [0,1,2,3,4,5,6,7,8,10,9,11,12,13,14,15,16] [0,1,3,7,15,31,63,127,255,511,255,2047,4095,8191,16383,32767,65535] [kp,kp,kp,kp,kq,kp,kp,kp,(.look,some 3),kk,(.look,some 3),kq,kp,kp,kq,kp,kp] rfl mixed (by kernel_rfl) ?_
            intro w143 hl143 hj143 hz143
            refine DL.mv 91 (str t31_0) rfl rfl rfl ?_
            refine DL.pu 92 (.bool (t31_0 == ([] : List UInt8))) rfl (p_strEq rfl rfl rfl) ?_
            refine DL.mv 93 (.bool (t31_0 == ([] : List UInt8))) rfl rfl rfl ?_
            obtain ⟨q145,h146,h147⟩:=bind_some h142
            refine DL.cut [(3,ptr b1 0),(97,.bool q145)] [7,8,10,9,11,12,13,14,15,16] ?_ (fun J148 => ?_)
            ·
             refine DL.mv 98 (.bool q145) rfl rfl rfl ?_
             obtain ⟨q156,h157,h158⟩:=bind_some h147
             refine DL.cutJ [(some b44,.cells ((Tm.ce t40_0 t40_0_2)) 25 (0,0)),(some b38,.cells ((Tm.ce t34_0 t34_0_2)) 25 (0,0)),(some b2,.cells ((Tm.ce a1 a1_2)) 25 (0,0)),(some b1,.cells ((Tm.ce a0 a0_2)) 25 (0,0))] M120 hE134 [(103,.bool q156)] [13,14,15,16] ?_ (fun J159 => ?_)
             ·
              intro M160 J160 hE160 hx160
              show DL _ _ _ _ _ _ _ _ _ _ _ _ ((some b44,.cells ((Tm.ce t40_0 t40_0_2)) 25 (0,0)) :: (some b38,.cells ((Tm.ce t34_0 t34_0_2)) 25 (0,0)) :: (some b2,.cells ((Tm.ce a1 a1_2)) 25 (0,0)) :: (some b1,.cells ((Tm.ce a0 a0_2)) 25 (0,0)) :: J160)
              refine DL.mv 104 (.bool q156) rfl rfl rfl ?_
              obtain ⟨q171,h172,h173⟩:=bind_some h158
              refine DL.cut [(106,.bool q171)] [16] ?_ (fun J174 => ?_)
              ·
               refine DL.pu 6 (.bool q171) rfl (p_assign rfl rfl) ?_
               refine DL.nil' hl143 ?_
               refine TT.settle (A:=[(some b44,.cells ((Tm.ce t40_0 t40_0_2)) 25 (0,0)),(some b38,.cells ((Tm.ce t34_0 t34_0_2)) 25 (0,0)),(some b2,.cells ((Tm.ce a1 a1_2)) 25 (0,0)),(some b1,.cells ((Tm.ce a0 a0_2)) 25 (0,0))]) (J:=J160) hE160 ?_
               intro I181 hE181 hxI181
               obtain rfl:=Option.some.inj h173
               exact retnE (rs:=[.tmp 6]) (vs:=[.bool q171]) hE181.base Tryd.func9 rfl rfl rfl (res_cons (ResV.tmp rfl) res_nil) rfl
              ·
               by_cases c175 : q156 = true
               ·
                have h176:=ite_true c175 h172
                obtain ⟨t177,h178,h179⟩:=bind_some h176
                refine DL.quiet (v:=.bool t177) rfl (Wn.yes c175 rfl rfl rfl rfl) rfl rfl rfl (f_callR rfl rfl (args_val (vs:=[]) rfl) (fun w => enter11 _ w) (fun w hc => law29_known.val h178 (M:=M160) w (hE160.extJ (A:=[(some b44,.cells ((Tm.ce t40_0 t40_0_2)) 25 (0,0)),(some b38,.cells ((Tm.ce t34_0 t34_0_2)) 25 (0,0)),(some b2,.cells ((Tm.ce a1 a1_2)) 25 (0,0)),(some b1,.cells ((Tm.ce a0 a0_2)) 25 (0,0))]) hc rfl) (Glob.mono hG.g (((hx37.trans hx43).trans hx120).trans hx160)))) ?_
                refine DL.pu 106 (.bool t177) rfl (p_pick_t c175 rfl rfl rfl) ?_
                obtain rfl:=Option.some.inj h179
                exact DL.weak J174 (Sub.cons rfl (Sub.nil _))
               ·
                replace c175:=Bool.eq_false_iff.mpr c175
                have h180:=ite_false c175 h172
                refine DL.not (i:=14) rfl (Wn.no c175 rfl rfl rfl rfl) rfl rfl ?_
                refine DL.pu 106 (.bool false) rfl (p_pick_f c175 rfl rfl rfl) ?_
                obtain rfl:=Option.some.inj h180
                exact DL.weak J174 (Sub.cons rfl (Sub.nil _))
             ·
              by_cases c155 : q145 = true
              ·
               have h161:=ite_true c155 h157
               refine DL.look (v:=.agg (Tm.ce a0 a0_2)) (x:=3) (b:=b1) (i:=8) rfl (Wn.yes c155 rfl rfl rfl rfl) rfl rfl rfl rfl rfl (List.mem_of_getElem? (i:=3) rfl) (b_loadA ty_a25 ty_s25 rfl rfl rfl) ?_
               refine DL.look (v:=.agg (Tm.ce a0 a0_2)) (x:=3) (b:=b1) (i:=10) rfl (Wn.yes c155 rfl rfl rfl rfl) rfl rfl rfl rfl rfl (List.mem_of_getElem? (i:=3) rfl) (b_loadA ty_a25 ty_s25 rfl rfl rfl) ?_
               obtain ⟨t162,h163,h164⟩:=bind_some h161
               refine DL.callF (G:=Value) (u:=fun g => .agg (Tm.ce t162 g)) (Q:=fun g M_ => (RowS ShTm M_ g (Tree.kids t162))) (A:=[(some b44,.cells ((Tm.ce t40_0 t40_0_2)) 25 (0,0)),(some b38,.cells ((Tm.ce t34_0 t34_0_2)) 25 (0,0)),(some b2,.cells ((Tm.ce a1 a1_2)) 25 (0,0)),(some b1,.cells ((Tm.ce a0 a0_2)) 25 (0,0))]) (J:=[]) (fun J165 => ((some b44,.cells ((Tm.ce t40_0 t40_0_2)) 25 (0,0)) :: (some b38,.cells ((Tm.ce t34_0 t34_0_2)) 25 (0,0)) :: (some b2,.cells ((Tm.ce a1 a1_2)) 25 (0,0)) :: (some b1,.cells ((Tm.ce a0 a0_2)) 25 (0,0)) :: J165)) hl143.2.2.2 hE134.nil (List.append_nil _).symm (fun _ => rfl) (by simp [kind_mk,num_mk]) (i:=9) rfl (Wn.yes c155 rfl rfl rfl rfl) rfl rfl rfl rfl rfl rfl (args_val (vs:=[.agg (Tm.ce a0 a0_2)]) rfl) (fun w => enter33 _ w) (fun w hc hI => terms_Order.ok h163 (M:=M120) w hI (Glob.mono hG.g ((hx37.trans hx43).trans hx120)) (RowS.mono hr_a0_2 ((hx37.trans hx43).trans hx120))) ?_
               rintro t162_2 M165 J165 hE165 hx165 hr_t162_2
               show DL _ _ _ _ _ _ _ _ _ _ _ _ ((some b44,.cells ((Tm.ce t40_0 t40_0_2)) 25 (0,0)) :: (some b38,.cells ((Tm.ce t34_0 t34_0_2)) 25 (0,0)) :: (some b2,.cells ((Tm.ce a1 a1_2)) 25 (0,0)) :: (some b1,.cells ((Tm.ce a0 a0_2)) 25 (0,0)) :: J165)
               obtain ⟨t166,h167,h168⟩:=bind_some h164
               refine DL.quiet (v:=.bool t166) rfl (Wn.yes c155 rfl rfl rfl rfl) rfl rfl rfl (f_callR rfl rfl (args_val (vs:=[.agg (Tm.ce t162 t162_2),.agg (Tm.ce a0 a0_2)]) rfl) (fun w => enter20 _ w) (fun w hc => ref29_Equal.val h167 (M:=M165) w (hE165.extJ (A:=[(some b44,.cells ((Tm.ce t40_0 t40_0_2)) 25 (0,0)),(some b38,.cells ((Tm.ce t34_0 t34_0_2)) 25 (0,0)),(some b2,.cells ((Tm.ce a1 a1_2)) 25 (0,0)),(some b1,.cells ((Tm.ce a0 a0_2)) 25 (0,0))]) hc rfl) hr_t162_2 (RowS.mono hr_a0_2 (((hx37.trans hx43).trans hx120).trans hx165)))) ?_
               refine DL.pu 103 (.bool t166) rfl (p_pick_t c155 rfl rfl rfl) ?_
               obtain rfl:=Option.some.inj h168
               exact DL.weak (J159 _ _ hE165 hx165) (Sub.cons rfl (Sub.nil _))
              ·
               replace c155:=Bool.eq_false_iff.mpr c155
               have h169:=ite_false c155 h157
               refine DL.not (i:=8) rfl (Wn.no c155 rfl rfl rfl rfl) rfl rfl ?_
               refine DL.not (i:=10) rfl (Wn.no c155 rfl rfl rfl rfl) rfl rfl ?_
               refine DL.not (i:=9) rfl (Wn.no c155 rfl rfl rfl rfl) rfl rfl ?_
               refine DL.not (i:=11) rfl (Wn.no c155 rfl rfl rfl rfl) rfl rfl ?_
               refine DL.pu 103 (.bool false) rfl (p_pick_f c155 rfl rfl rfl) ?_
               obtain rfl:=Option.some.inj h169
               exact DL.weak (J159 _ _ hE134.nil (Ext.refl _)) (Sub.cons rfl (Sub.nil _))
            ·
             by_cases c149 : (t31_0 == ([] : List UInt8)) = true
             ·
              have h150:=ite_true c149 h146
              refine DL.pure (v:=.int .i64 t31_1) rfl (Wn.yes c149 rfl rfl rfl rfl) rfl rfl rfl (p_move rfl rfl) ?_
              obtain ⟨t151,h152,h153⟩:=bind_some h150
              refine DL.quiet (v:=.int .i64 t151) rfl (Wn.yes c149 rfl rfl rfl rfl) rfl rfl rfl (f_callR rfl rfl (args_val (vs:=[.int .i64 t31_1]) rfl) (fun w => enter24 _ w) (fun w hc => law29_num.val h152 (M:=M120) w (hE134.ext hc) )) ?_
              refine DL.pure (v:=.bool (t151 == 2)) rfl (Wn.yes c149 rfl rfl rfl rfl) rfl rfl rfl (p_eql rfl rfl rfl) ?_
              refine DL.pu 97 (.bool (t151 == 2)) rfl (p_pick_t c149 rfl rfl rfl) ?_
              obtain rfl:=Option.some.inj h153
              exact DL.weak J148 (Sub.cons rfl (Sub.cons rfl (Sub.nil _)))
             ·
              replace c149:=Bool.eq_false_iff.mpr c149
              have h154:=ite_false c149 h146
              refine DL.not (i:=3) rfl (Wn.no c149 rfl rfl rfl rfl) rfl rfl ?_
              refine DL.not (i:=4) rfl (Wn.no c149 rfl rfl rfl rfl) rfl rfl ?_
              refine DL.not (i:=5) rfl (Wn.no c149 rfl rfl rfl rfl) rfl rfl ?_
              refine DL.pu 97 (.bool false) rfl (p_pick_f c149 rfl rfl rfl) ?_
              obtain rfl:=Option.some.inj h154
              exact DL.weak J148 (Sub.cons rfl (Sub.cons rfl (Sub.nil _)))
           ·
            replace c141:=Bool.eq_false_iff.mpr c141
            have h182:=ite_false c141 h140
            refine TT.cond_false (x:=sub [1,1,1,1,1,1,1,1,0,1,0] B9) (y:=sub [1,1,1,1,1,1,1,1,0,1,1] B9) rfl c141 ?_
            refine TT.skip ?_
            refine TT.seq (x:=sub [1,1,1,1,1,1,1,1,1,0] B9) (y:=sub [1,1,1,1,1,1,1,1,1,1] B9) ?_
            refine TT.rgD [0,1,2,3,4,5,6,7,8,9,10,12,11,13,14,15,16,17,18,19] [0,0,2,7,15,31,63,127,255,511,1023,2047,1023,8191,16383,32767,65535,131071,262143,524287] [kp,(.look,some 3),kq,kp,kp,kp,kq,kp,kp,kp,(.look,some 3),kk,(.look,some 3),kk,kq,kp,kp,kq,kp,kp] rfl mixed (by kernel_rfl) ?_
            intro w183 hl183 hj183 hz183
            refine DL.mv 107 (str t31_0) rfl rfl rfl ?_
            refine DL.look (v:=.agg (Tm.ce a0 a0_2)) (x:=3) (b:=b1) (i:=1) rfl (Wn.none rfl) rfl rfl rfl rfl rfl (List.mem_of_getElem? (i:=3) rfl) (b_loadA ty_a25 ty_s25 rfl rfl rfl) ?_
            obtain ⟨t184,h185,h186⟩:=bind_some h182
            refine DL.qu 109 (str t184) rfl (f_callR rfl rfl (args_val (vs:=[.agg (Tm.ce a0 a0_2)]) rfl) (fun w => enter27 _ w) (fun w hc => ref29_Text.val h185 (M:=M120) w (hE134.ext hc) (Glob.mono hG.g ((hx37.trans hx43).trans hx120)) (RowS.mono hr_a0_2 ((hx37.trans hx43).trans hx120)))) ?_
            refine DL.pu 110 (.bool (t31_0 == t184)) rfl (p_strEq rfl rfl rfl) ?_
            refine DL.mv 111 (.bool (t31_0 == t184)) rfl rfl rfl ?_
            obtain ⟨q188,h189,h190⟩:=bind_some h186
            refine DL.cut [(3,ptr b1 0),(115,.bool q188)] [9,10,12,11,13,14,15,16,17,18,19] ?_ (fun J191 => ?_)
            ·
             refine DL.mv 116 (.bool q188) rfl rfl rfl ?_
             obtain ⟨q199,h200,h201⟩:=bind_some h190
             refine DL.cutJ [(some b44,.cells ((Tm.ce t40_0 t40_0_2)) 25 (0,0)),(some b38,.cells ((Tm.ce t34_0 t34_0_2)) 25 (0,0)),(some b2,.cells ((Tm.ce a1 a1_2)) 25 (0,0)),(some b1,.cells ((Tm.ce a0 a0_2)) 25 (0,0))] M120 hE134 [(122,.bool q199)] [16,17,18,19] ?_ (fun J202 => ?_)
             ·
              intro M203 J203 hE203 hx203
              show DL _ _ _ _ _ _ _ _ _ _ _ _ ((some b44,.cells ((Tm.ce t40_0 t40_0_2)) 25 (0,0)) :: (some b38,.cells ((Tm.ce t34_0 t34_0_2)) 25 (0,0)) :: (some b2,.cells ((Tm.ce a1 a1_2)) 25 (0,0)) :: (some b1,.cells ((Tm.ce a0 a0_2)) 25 (0,0)) :: J203)
              refine DL.mv 123 (.bool q199) rfl rfl rfl ?_
              obtain ⟨q218,h219,h220⟩:=bind_some h201
              refine DL.cut [(125,.bool q218)] [19] ?_ (fun J221 => ?_)
              ·
               refine DL.pu 6 (.bool q218) rfl (p_assign rfl rfl) ?_
               refine DL.nil' hl183 ?_
               refine TT.settle (A:=[(some b44,.cells ((Tm.ce t40_0 t40_0_2)) 25 (0,0)),(some b38,.cells ((Tm.ce t34_0 t34_0_2)) 25 (0,0)),(some b2,.cells ((Tm.ce a1 a1_2)) 25 (0,0)),(some b1,.cells ((Tm.ce a0 a0_2)) 25 (0,0))]) (J:=J203) hE203 ?_
               intro I228 hE228 hxI228
               obtain rfl:=Option.some.inj h220
               exact retnE (rs:=[.tmp 6]) (vs:=[.bool q218]) hE228.base Tryd.func9 rfl rfl rfl (res_cons (ResV.tmp rfl) res_nil) rfl
              ·
               by_cases c222 : q199 = true
               ·
                have h223:=ite_true c222 h219
                obtain ⟨t224,h225,h226⟩:=bind_some h223
                refine DL.quiet (v:=.bool t224) rfl (Wn.yes c222 rfl rfl rfl rfl) rfl rfl rfl (f_callR rfl rfl (args_val (vs:=[]) rfl) (fun w => enter11 _ w) (fun w hc => law29_known.val h225 (M:=M203) w (hE203.extJ (A:=[(some b44,.cells ((Tm.ce t40_0 t40_0_2)) 25 (0,0)),(some b38,.cells ((Tm.ce t34_0 t34_0_2)) 25 (0,0)),(some b2,.cells ((Tm.ce a1 a1_2)) 25 (0,0)),(some b1,.cells ((Tm.ce a0 a0_2)) 25 (0,0))]) hc rfl) (Glob.mono hG.g (((hx37.trans hx43).trans hx120).trans hx203)))) ?_
                refine DL.pu 125 (.bool t224) rfl (p_pick_t c222 rfl rfl rfl) ?_
                obtain rfl:=Option.some.inj h226
                exact DL.weak J221 (Sub.cons rfl (Sub.nil _))
               ·
                replace c222:=Bool.eq_false_iff.mpr c222
                have h227:=ite_false c222 h219
                refine DL.not (i:=17) rfl (Wn.no c222 rfl rfl rfl rfl) rfl rfl ?_
                refine DL.pu 125 (.bool false) rfl (p_pick_f c222 rfl rfl rfl) ?_
                obtain rfl:=Option.some.inj h227
                exact DL.weak J221 (Sub.cons rfl (Sub.nil _))
             ·
              by_cases c198 : q188 = true
              ·
               have h204:=ite_true c198 h200
               refine DL.look (v:=.agg (Tm.ce a0 a0_2)) (x:=3) (b:=b1) (i:=10) rfl (Wn.yes c198 rfl rfl rfl rfl) rfl rfl rfl rfl rfl (List.mem_of_getElem? (i:=3) rfl) (b_loadA ty_a25 ty_s25 rfl rfl rfl) ?_
               refine DL.look (v:=.agg (Tm.ce a0 a0_2)) (x:=3) (b:=b1) (i:=12) rfl (Wn.yes c198 rfl rfl rfl rfl) rfl rfl rfl rfl rfl (List.mem_of_getElem? (i:=3) rfl) (b_loadA ty_a25 ty_s25 rfl rfl rfl) ?_
               obtain ⟨t205,h206,h207⟩:=bind_some h204
               refine DL.callF (G:=Value) (u:=fun g => .agg (Tm.ce t205 g)) (Q:=fun g M_ => (RowS ShTm M_ g (Tree.kids t205))) (A:=[(some b44,.cells ((Tm.ce t40_0 t40_0_2)) 25 (0,0)),(some b38,.cells ((Tm.ce t34_0 t34_0_2)) 25 (0,0)),(some b2,.cells ((Tm.ce a1 a1_2)) 25 (0,0)),(some b1,.cells ((Tm.ce a0 a0_2)) 25 (0,0))]) (J:=[]) (fun J208 => ((some b44,.cells ((Tm.ce t40_0 t40_0_2)) 25 (0,0)) :: (some b38,.cells ((Tm.ce t34_0 t34_0_2)) 25 (0,0)) :: (some b2,.cells ((Tm.ce a1 a1_2)) 25 (0,0)) :: (some b1,.cells ((Tm.ce a0 a0_2)) 25 (0,0)) :: J208)) hl183.2.2.2 hE134.nil (List.append_nil _).symm (fun _ => rfl) (by simp [kind_mk,num_mk]) (i:=11) rfl (Wn.yes c198 rfl rfl rfl rfl) rfl rfl rfl rfl rfl rfl (args_val (vs:=[.agg (Tm.ce a0 a0_2)]) rfl) (fun w => enter33 _ w) (fun w hc hI => terms_Order.ok h206 (M:=M120) w hI (Glob.mono hG.g ((hx37.trans hx43).trans hx120)) (RowS.mono hr_a0_2 ((hx37.trans hx43).trans hx120))) ?_
               rintro t205_2 M208 J208 hE208 hx208 hr_t205_2
               show DL _ _ _ _ _ _ _ _ _ _ _ _ ((some b44,.cells ((Tm.ce t40_0 t40_0_2)) 25 (0,0)) :: (some b38,.cells ((Tm.ce t34_0 t34_0_2)) 25 (0,0)) :: (some b2,.cells ((Tm.ce a1 a1_2)) 25 (0,0)) :: (some b1,.cells ((Tm.ce a0 a0_2)) 25 (0,0)) :: J208)
               obtain ⟨t209,h210,h211⟩:=bind_some h207
               refine DL.callF (G:=Value) (u:=fun g => .agg (Tm.ce t209 g)) (Q:=fun g M_ => (RowS ShTm M_ g (Tree.kids t209))) (A:=[(some b44,.cells ((Tm.ce t40_0 t40_0_2)) 25 (0,0)),(some b38,.cells ((Tm.ce t34_0 t34_0_2)) 25 (0,0)),(some b2,.cells ((Tm.ce a1 a1_2)) 25 (0,0)),(some b1,.cells ((Tm.ce a0 a0_2)) 25 (0,0))]) (J:=J208) (fun J212 => ((some b44,.cells ((Tm.ce t40_0 t40_0_2)) 25 (0,0)) :: (some b38,.cells ((Tm.ce t34_0 t34_0_2)) 25 (0,0)) :: (some b2,.cells ((Tm.ce a1 a1_2)) 25 (0,0)) :: (some b1,.cells ((Tm.ce a0 a0_2)) 25 (0,0)) :: J212)) hl183.2.2.2 hE208 rfl (fun _ => rfl) (by simp [kind_mk,num_mk]) (i:=13) rfl (Wn.yes c198 rfl rfl rfl rfl) rfl rfl rfl rfl rfl rfl (args_val (vs:=[.agg (Tm.ce a0 a0_2)]) rfl) (fun w => enter17 _ w) (fun w hc hI => ref29_Order.ok h210 (M:=M208) w hI (Glob.mono hG.g (((hx37.trans hx43).trans hx120).trans hx208)) (RowS.mono hr_a0_2 (((hx37.trans hx43).trans hx120).trans hx208))) ?_
               rintro t209_2 M212 J212 hE212 hx212 hr_t209_2
               show DL _ _ _ _ _ _ _ _ _ _ _ _ ((some b44,.cells ((Tm.ce t40_0 t40_0_2)) 25 (0,0)) :: (some b38,.cells ((Tm.ce t34_0 t34_0_2)) 25 (0,0)) :: (some b2,.cells ((Tm.ce a1 a1_2)) 25 (0,0)) :: (some b1,.cells ((Tm.ce a0 a0_2)) 25 (0,0)) :: J212)
               obtain ⟨t213,h214,h215⟩:=bind_some h211
               refine DL.quiet (v:=.bool t213) rfl (Wn.yes c198 rfl rfl rfl rfl) rfl rfl rfl (f_callR rfl rfl (args_val (vs:=[.agg (Tm.ce t205 t205_2),.agg (Tm.ce t209 t209_2)]) rfl) (fun w => enter20 _ w) (fun w hc => ref29_Equal.val h214 (M:=M212) w (hE212.extJ (A:=[(some b44,.cells ((Tm.ce t40_0 t40_0_2)) 25 (0,0)),(some b38,.cells ((Tm.ce t34_0 t34_0_2)) 25 (0,0)),(some b2,.cells ((Tm.ce a1 a1_2)) 25 (0,0)),(some b1,.cells ((Tm.ce a0 a0_2)) 25 (0,0))]) hc rfl) (RowS.mono hr_t205_2 hx212) hr_t209_2)) ?_
               refine DL.pu 122 (.bool t213) rfl (p_pick_t c198 rfl rfl rfl) ?_
               obtain rfl:=Option.some.inj h215
               exact DL.weak (J202 _ _ hE212 (hx208.trans hx212)) (Sub.cons rfl (Sub.nil _))
              ·
               replace c198:=Bool.eq_false_iff.mpr c198
               have h216:=ite_false c198 h200
               refine DL.not (i:=10) rfl (Wn.no c198 rfl rfl rfl rfl) rfl rfl ?_
               refine DL.not (i:=12) rfl (Wn.no c198 rfl rfl rfl rfl) rfl rfl ?_
               refine DL.not (i:=11) rfl (Wn.no c198 rfl rfl rfl rfl) rfl rfl ?_
               refine DL.not (i:=13) rfl (Wn.no c198 rfl rfl rfl rfl) rfl rfl ?_
               refine DL.not (i:=14) rfl (Wn.no c198 rfl rfl rfl rfl) rfl rfl ?_
               refine DL.pu 122 (.bool false) rfl (p_pick_f c198 rfl rfl rfl) ?_
               obtain rfl:=Option.some.inj h216
               exact DL.weak (J202 _ _ hE134.nil (Ext.refl _)) (Sub.cons rfl (Sub.nil _))
            ·
             by_cases c192 : (t31_0 == t184) = true
             ·
              have h193:=ite_true c192 h189
              refine DL.pure (v:=.int .i64 t31_1) rfl (Wn.yes c192 rfl rfl rfl rfl) rfl rfl rfl (p_move rfl rfl) ?_
              obtain ⟨t194,h195,h196⟩:=bind_some h193
              refine DL.quiet (v:=.int .i64 t194) rfl (Wn.yes c192 rfl rfl rfl rfl) rfl rfl rfl (f_callR rfl rfl (args_val (vs:=[.int .i64 t31_1]) rfl) (fun w => enter24 _ w) (fun w hc => law29_num.val h195 (M:=M120) w (hE134.ext hc) )) ?_
              refine DL.pure (v:=.bool (t194 == 0)) rfl (Wn.yes c192 rfl rfl rfl rfl) rfl rfl rfl (p_eql rfl rfl rfl) ?_
              refine DL.pu 115 (.bool (t194 == 0)) rfl (p_pick_t c192 rfl rfl rfl) ?_
              obtain rfl:=Option.some.inj h196
              exact DL.weak J191 (Sub.cons rfl (Sub.cons rfl (Sub.nil _)))
             ·
              replace c192:=Bool.eq_false_iff.mpr c192
              have h197:=ite_false c192 h189
              refine DL.not (i:=5) rfl (Wn.no c192 rfl rfl rfl rfl) rfl rfl ?_
              refine DL.not (i:=6) rfl (Wn.no c192 rfl rfl rfl rfl) rfl rfl ?_
              refine DL.not (i:=7) rfl (Wn.no c192 rfl rfl rfl rfl) rfl rfl ?_
              refine DL.pu 115 (.bool false) rfl (p_pick_f c192 rfl rfl rfl) ?_
              obtain rfl:=Option.some.inj h197
              exact DL.weak J191 (Sub.cons rfl (Sub.cons rfl (Sub.nil _)))
         ·
          by_cases c115 : q101 = true
          ·
           have h121:=ite_true c115 h117
           refine DL.look (v:=.agg (Tm.ce a0 a0_2)) (x:=3) (b:=b1) (i:=5) rfl (Wn.yes c115 rfl rfl rfl rfl) rfl rfl rfl rfl rfl (List.mem_of_getElem? (i:=3) rfl) (b_loadA ty_a25 ty_s25 rfl rfl rfl) ?_
           refine DL.look (v:=.agg (Tm.ce a1 a1_2)) (x:=2) (b:=b2) (i:=7) rfl (Wn.yes c115 rfl rfl rfl rfl) rfl rfl rfl rfl rfl (List.mem_of_getElem? (i:=2) rfl) (b_loadA ty_a25 ty_s25 rfl rfl rfl) ?_
           obtain ⟨t122,h123,h124⟩:=bind_some h121
           refine DL.callF (G:=Value) (u:=fun g => .agg (Tm.ce t122 g)) (Q:=fun g M_ => (RowS ShTm M_ g (Tree.kids t122))) (A:=[(some b44,.cells ((Tm.ce t40_0 t40_0_2)) 25 (0,0)),(some b38,.cells ((Tm.ce t34_0 t34_0_2)) 25 (0,0)),(some b2,.cells ((Tm.ce a1 a1_2)) 25 (0,0)),(some b1,.cells ((Tm.ce a0 a0_2)) 25 (0,0))]) (J:=[]) (fun J125 => ((some b44,.cells ((Tm.ce t40_0 t40_0_2)) 25 (0,0)) :: (some b38,.cells ((Tm.ce t34_0 t34_0_2)) 25 (0,0)) :: (some b2,.cells ((Tm.ce a1 a1_2)) 25 (0,0)) :: (some b1,.cells ((Tm.ce a0 a0_2)) 25 (0,0)) :: J125)) hl111.2.2.2 hE45.nil (List.append_nil _).symm (fun _ => rfl) (by simp [kind_mk,num_mk]) (i:=6) rfl (Wn.yes c115 rfl rfl rfl rfl) rfl rfl rfl rfl rfl rfl (args_val (vs:=[.agg (Tm.ce a0 a0_2)]) rfl) (fun w => enter17 _ w) (fun w hc hI => ref29_Order.ok h123 (M:=M43) w hI (Glob.mono hG.g (hx37.trans hx43)) (RowS.mono hr_a0_2 (hx37.trans hx43))) ?_
           rintro t122_2 M125 J125 hE125 hx125 hr_t122_2
           show DL _ _ _ _ _ _ _ _ _ _ _ _ ((some b44,.cells ((Tm.ce t40_0 t40_0_2)) 25 (0,0)) :: (some b38,.cells ((Tm.ce t34_0 t34_0_2)) 25 (0,0)) :: (some b2,.cells ((Tm.ce a1 a1_2)) 25 (0,0)) :: (some b1,.cells ((Tm.ce a0 a0_2)) 25 (0,0)) :: J125)
           obtain ⟨t126,h127,h128⟩:=bind_some h124
           refine DL.callF (G:=Value) (u:=fun g => .agg (Tm.ce t126 g)) (Q:=fun g M_ => (RowS ShTm M_ g (Tree.kids t126))) (A:=[(some b44,.cells ((Tm.ce t40_0 t40_0_2)) 25 (0,0)),(some b38,.cells ((Tm.ce t34_0 t34_0_2)) 25 (0,0)),(some b2,.cells ((Tm.ce a1 a1_2)) 25 (0,0)),(some b1,.cells ((Tm.ce a0 a0_2)) 25 (0,0))]) (J:=J125) (fun J129 => ((some b44,.cells ((Tm.ce t40_0 t40_0_2)) 25 (0,0)) :: (some b38,.cells ((Tm.ce t34_0 t34_0_2)) 25 (0,0)) :: (some b2,.cells ((Tm.ce a1 a1_2)) 25 (0,0)) :: (some b1,.cells ((Tm.ce a0 a0_2)) 25 (0,0)) :: J129)) hl111.2.2.2 hE125 rfl (fun _ => rfl) (by simp [kind_mk,num_mk]) (i:=8) rfl (Wn.yes c115 rfl rfl rfl rfl) rfl rfl rfl rfl rfl rfl (args_val (vs:=[.agg (Tm.ce a1 a1_2)]) rfl) (fun w => enter17 _ w) (fun w hc hI => ref29_Order.ok h127 (M:=M125) w hI (Glob.mono hG.g ((hx37.trans hx43).trans hx125)) (RowS.mono hr_a1_2 ((hx37.trans hx43).trans hx125))) ?_
           rintro t126_2 M129 J129 hE129 hx129 hr_t126_2
           show DL _ _ _ _ _ _ _ _ _ _ _ _ ((some b44,.cells ((Tm.ce t40_0 t40_0_2)) 25 (0,0)) :: (some b38,.cells ((Tm.ce t34_0 t34_0_2)) 25 (0,0)) :: (some b2,.cells ((Tm.ce a1 a1_2)) 25 (0,0)) :: (some b1,.cells ((Tm.ce a0 a0_2)) 25 (0,0)) :: J129)
           obtain ⟨t130,h131,h132⟩:=bind_some h128
           refine DL.quiet (v:=.bool t130) rfl (Wn.yes c115 rfl rfl rfl rfl) rfl rfl rfl (f_callR rfl rfl (args_val (vs:=[.agg (Tm.ce t122 t122_2),.agg (Tm.ce t126 t126_2)]) rfl) (fun w => enter20 _ w) (fun w hc => ref29_Equal.val h131 (M:=M129) w (hE129.extJ (A:=[(some b44,.cells ((Tm.ce t40_0 t40_0_2)) 25 (0,0)),(some b38,.cells ((Tm.ce t34_0 t34_0_2)) 25 (0,0)),(some b2,.cells ((Tm.ce a1 a1_2)) 25 (0,0)),(some b1,.cells ((Tm.ce a0 a0_2)) 25 (0,0))]) hc rfl) (RowS.mono hr_t122_2 hx129) hr_t126_2)) ?_
           refine DL.pu 86 (.bool t130) rfl (p_pick_t c115 rfl rfl rfl) ?_
           obtain rfl:=Option.some.inj h132
           exact DL.weak (J119 _ _ hE129 (hx125.trans hx129)) (Sub.cons rfl (Sub.cons rfl (Sub.cons rfl (Sub.cons rfl (Sub.cons rfl (Sub.nil _))))))
          ·
           replace c115:=Bool.eq_false_iff.mpr c115
           have h133:=ite_false c115 h117
           refine DL.not (i:=5) rfl (Wn.no c115 rfl rfl rfl rfl) rfl rfl ?_
           refine DL.not (i:=7) rfl (Wn.no c115 rfl rfl rfl rfl) rfl rfl ?_
           refine DL.not (i:=6) rfl (Wn.no c115 rfl rfl rfl rfl) rfl rfl ?_
           refine DL.not (i:=8) rfl (Wn.no c115 rfl rfl rfl rfl) rfl rfl ?_
           refine DL.not (i:=9) rfl (Wn.no c115 rfl rfl rfl rfl) rfl rfl ?_
           refine DL.pu 86 (.bool false) rfl (p_pick_f c115 rfl rfl rfl) ?_
           obtain rfl:=Option.some.inj h133
           exact DL.weak (J119 _ _ hE45.nil (Ext.refl _)) (Sub.cons rfl (Sub.cons rfl (Sub.cons rfl (Sub.cons rfl (Sub.cons rfl (Sub.nil _))))))
        ·
         by_cases c105 : t97 = true
         ·
          have h106:=ite_true c105 h102
          refine DL.quiet (v:=.agg (Tm.ce a1 a1_2)) rfl (Wn.yes c105 rfl rfl rfl rfl) rfl rfl rfl (f_loadA (j:=2) ty_a25 ty_s25 rfl rfl rfl rfl) ?_
          obtain ⟨t107,h108,h109⟩:=bind_some h106
          refine DL.quiet (v:=.bool t107) rfl (Wn.yes c105 rfl rfl rfl rfl) rfl rfl rfl (f_callR rfl rfl (args_val (vs:=[.agg (Tm.ce a1 a1_2)]) rfl) (fun w => enter15 _ w) (fun w hc => ref29_May.val h108 (M:=M43) w (hE45.ext hc) (RowS.mono hr_a1_2 (hx37.trans hx43)))) ?_
          refine DL.pu 75 (.bool t107) rfl (p_pick_t c105 rfl rfl rfl) ?_
          obtain rfl:=Option.some.inj h109
          exact DL.weak J104 (Sub.cons rfl (Sub.cons rfl (Sub.cons rfl (Sub.cons rfl (Sub.cons rfl (Sub.nil _))))))
         ·
          replace c105:=Bool.eq_false_iff.mpr c105
          have h110:=ite_false c105 h102
          refine DL.not (i:=3) rfl (Wn.no c105 rfl rfl rfl rfl) rfl rfl ?_
          refine DL.not (i:=4) rfl (Wn.no c105 rfl rfl rfl rfl) rfl rfl ?_
          refine DL.pu 75 (.bool false) rfl (p_pick_f c105 rfl rfl rfl) ?_
          obtain rfl:=Option.some.inj h110
          exact DL.weak J104 (Sub.cons rfl (Sub.cons rfl (Sub.cons rfl (Sub.cons rfl (Sub.cons rfl (Sub.nil _))))))
      ·
       by_cases c80 : q65 = true
       ·
        have h81:=ite_true c80 h77
        refine DL.not (i:=19) rfl (Wn.yes c80 rfl rfl rfl rfl) rfl rfl ?_
        refine DL.not (i:=20) rfl (Wn.yes c80 rfl rfl rfl rfl) rfl rfl ?_
        refine DL.not (i:=21) rfl (Wn.yes c80 rfl rfl rfl rfl) rfl rfl ?_
        refine DL.not (i:=22) rfl (Wn.undef rfl rfl rfl) rfl rfl ?_
        refine DL.not (i:=23) rfl (Wn.undef rfl rfl rfl) rfl rfl ?_
        refine DL.not (i:=24) rfl (Wn.undef rfl rfl rfl) rfl rfl ?_
        refine DL.not (i:=25) rfl (Wn.yes c80 rfl rfl rfl rfl) rfl rfl ?_
        refine DL.pu 69 (.bool true) rfl (p_pick_t c80 rfl rfl rfl) ?_
        obtain rfl:=Option.some.inj h81
        exact DL.weak J79 (Sub.cons rfl (Sub.cons rfl (Sub.cons rfl (Sub.cons rfl (Sub.cons rfl (Sub.nil _))))))
       ·
        replace c80:=Bool.eq_false_iff.mpr c80
        have h82:=ite_false c80 h77
        refine DL.pure (v:=.bool t40_1) rfl (Wn.no c80 rfl rfl rfl rfl) rfl rfl rfl (p_move rfl rfl) ?_
        refine DL.pure (v:=.bool (!t40_1)) rfl (Wn.no c80 rfl rfl rfl rfl) rfl rfl rfl (p_not rfl rfl) ?_
        refine DL.pure (v:=.bool (!t40_1)) rfl (Wn.no c80 rfl rfl rfl rfl) rfl rfl rfl (p_move rfl rfl) ?_
        obtain ⟨q84,h85,h86⟩:=bind_some h82
        refine DL.cut [(3,ptr b1 0),(4,ptr b2 0),(7,str t31_0),(8,.int .i64 t31_1),(61,.bool q65),(68,.bool q84)] [26] ?_ (fun J87 => ?_)
        ·
         refine DL.pu 69 (.bool q84) rfl (p_pick_f c80 rfl rfl rfl) ?_
         obtain rfl:=Option.some.inj h86
         exact DL.weak J79 (Sub.cons rfl (Sub.cons rfl (Sub.cons rfl (Sub.cons rfl (Sub.cons rfl (Sub.nil _))))))
        ·
         by_cases c88 : (!t40_1) = true
         ·
          have h89:=ite_true c88 h85
          refine DL.pure (v:=.int .i64 t34_1) rfl (Wn.yes c88 rfl rfl rfl rfl) rfl rfl rfl (p_move rfl rfl) ?_
          obtain ⟨t90,h91,h92⟩:=bind_some h89
          refine DL.quiet (v:=.int .i64 t90) rfl (Wn.yes c88 rfl rfl rfl rfl) rfl rfl rfl (f_callR rfl rfl (args_val (vs:=[.int .i64 t34_1]) rfl) (fun w => enter24 _ w) (fun w hc => law29_num.val h91 (M:=M43) w (hE45.ext hc) )) ?_
          refine DL.pure (v:=.bool (t90 != 4)) rfl (Wn.yes c88 rfl rfl rfl rfl) rfl rfl rfl (p_neq rfl rfl rfl) ?_
          refine DL.pure (v:=.bool (t90 != 4)) rfl (Wn.no c80 rfl rfl rfl rfl) rfl rfl rfl (p_pick_t c88 rfl rfl rfl) ?_
          obtain rfl:=Option.some.inj h92
          exact DL.weak J87 (Sub.cons rfl (Sub.cons rfl (Sub.cons rfl (Sub.cons rfl (Sub.cons rfl (Sub.cons rfl (Sub.nil _)))))))
         ·
          replace c88:=Bool.eq_false_iff.mpr c88
          have h93:=ite_false c88 h85
          refine DL.not (i:=22) rfl (Wn.no c88 rfl rfl rfl rfl) rfl rfl ?_
          refine DL.not (i:=23) rfl (Wn.no c88 rfl rfl rfl rfl) rfl rfl ?_
          refine DL.not (i:=24) rfl (Wn.no c88 rfl rfl rfl rfl) rfl rfl ?_
          refine DL.pure (v:=.bool false) rfl (Wn.no c80 rfl rfl rfl rfl) rfl rfl rfl (p_pick_f c88 rfl rfl rfl) ?_
          obtain rfl:=Option.some.inj h93
          exact DL.weak J87 (Sub.cons rfl (Sub.cons rfl (Sub.cons rfl (Sub.cons rfl (Sub.cons rfl (Sub.cons rfl (Sub.nil _)))))))
     ·
      by_cases c69 : q54 = true
      ·
       have h70:=ite_true c69 h66
       refine DL.not (i:=12) rfl (Wn.yes c69 rfl rfl rfl rfl) rfl rfl ?_
       refine DL.not (i:=13) rfl (Wn.yes c69 rfl rfl rfl rfl) rfl rfl ?_
       refine DL.not (i:=14) rfl (Wn.yes c69 rfl rfl rfl rfl) rfl rfl ?_
       refine DL.not (i:=15) rfl (Wn.yes c69 rfl rfl rfl rfl) rfl rfl ?_
       refine DL.not (i:=16) rfl (Wn.yes c69 rfl rfl rfl rfl) rfl rfl ?_
       refine DL.pu 60 (.bool true) rfl (p_pick_t c69 rfl rfl rfl) ?_
       obtain rfl:=Option.some.inj h70
       exact DL.weak J68 (Sub.cons rfl (Sub.cons rfl (Sub.cons rfl (Sub.cons rfl (Sub.cons rfl (Sub.cons rfl (Sub.cons rfl (Sub.nil _))))))))
      ·
       replace c69:=Bool.eq_false_iff.mpr c69
       have h71:=ite_false c69 h66
       refine DL.pure (v:=.int .i64 t34_1) rfl (Wn.no c69 rfl rfl rfl rfl) rfl rfl rfl (p_move rfl rfl) ?_
       obtain ⟨t72,h73,h74⟩:=bind_some h71
       refine DL.quiet (v:=.int .i64 t72) rfl (Wn.no c69 rfl rfl rfl rfl) rfl rfl rfl (f_callR rfl rfl (args_val (vs:=[.int .i64 t34_1]) rfl) (fun w => enter24 _ w) (fun w hc => law29_num.val h73 (M:=M43) w (hE45.ext hc) )) ?_
       refine DL.pure (v:=.bool (t72 == 0)) rfl (Wn.no c69 rfl rfl rfl rfl) rfl rfl rfl (p_eql rfl rfl rfl) ?_
       refine DL.pure (v:=.bool t40_1) rfl (Wn.no c69 rfl rfl rfl rfl) rfl rfl rfl (p_move rfl rfl) ?_
       refine DL.pure (v:=.bool (!((t72 == 0) == t40_1))) rfl (Wn.no c69 rfl rfl rfl rfl) rfl rfl rfl (p_neb ty_u4 rfl rfl rfl) ?_
       refine DL.pu 60 (.bool (!((t72 == 0) == t40_1))) rfl (p_pick_f c69 rfl rfl rfl) ?_
       obtain rfl:=Option.some.inj h74
       exact DL.weak J68 (Sub.cons rfl (Sub.cons rfl (Sub.cons rfl (Sub.cons rfl (Sub.cons rfl (Sub.cons rfl (Sub.cons rfl (Sub.nil _))))))))
    ·
     by_cases c58 : (!(t47 == t50)) = true
     ·
      have h59:=ite_true c58 h55
      refine DL.not (i:=6) rfl (Wn.yes c58 rfl rfl rfl rfl) rfl rfl ?_
      refine DL.not (i:=7) rfl (Wn.yes c58 rfl rfl rfl rfl) rfl rfl ?_
      refine DL.not (i:=8) rfl (Wn.yes c58 rfl rfl rfl rfl) rfl rfl ?_
      refine DL.not (i:=9) rfl (Wn.yes c58 rfl rfl rfl rfl) rfl rfl ?_
      refine DL.pu 53 (.bool true) rfl (p_pick_t c58 rfl rfl rfl) ?_
      obtain rfl:=Option.some.inj h59
      exact DL.weak J57 (Sub.cons rfl (Sub.cons rfl (Sub.cons rfl (Sub.cons rfl (Sub.cons rfl (Sub.cons rfl (Sub.cons rfl (Sub.nil _))))))))
     ·
      replace c58:=Bool.eq_false_iff.mpr c58
      have h60:=ite_false c58 h55
      refine DL.look (v:=.agg (Tm.ce t34_0 t34_0_2)) (x:=1) (b:=b38) (i:=6) rfl (Wn.no c58 rfl rfl rfl rfl) rfl rfl rfl rfl rfl (List.mem_of_getElem? (i:=1) rfl) (b_loadA ty_a25 ty_s25 rfl rfl rfl) ?_
      refine DL.look (v:=.agg (Tm.ce t40_0 t40_0_2)) (x:=0) (b:=b44) (i:=7) rfl (Wn.no c58 rfl rfl rfl rfl) rfl rfl rfl rfl rfl (List.mem_of_getElem? (i:=0) rfl) (b_loadA ty_a25 ty_s25 rfl rfl rfl) ?_
      obtain ⟨t61,h62,h63⟩:=bind_some h60
      refine DL.quiet (v:=.bool t61) rfl (Wn.no c58 rfl rfl rfl rfl) rfl rfl rfl (f_callR rfl rfl (args_val (vs:=[.agg (Tm.ce t34_0 t34_0_2),.agg (Tm.ce t40_0 t40_0_2)]) rfl) (fun w => enter20 _ w) (fun w hc => ref29_Equal.val h62 (M:=M43) w (hE45.ext hc) (RowS.mono hr_t34_0_2 hx43) hr_t40_0_2)) ?_
      refine DL.pure (v:=.bool (!t61)) rfl (Wn.no c58 rfl rfl rfl rfl) rfl rfl rfl (p_not rfl rfl) ?_
      refine DL.pu 53 (.bool (!t61)) rfl (p_pick_f c58 rfl rfl rfl) ?_
      obtain rfl:=Option.some.inj h63
      exact DL.weak J57 (Sub.cons rfl (Sub.cons rfl (Sub.cons rfl (Sub.cons rfl (Sub.cons rfl (Sub.cons rfl (Sub.cons rfl (Sub.nil _))))))))
  ·
   by_cases c22 : q7 = true
   ·
    have h23:=ite_true c22 h19
    refine DL.not (i:=9) rfl (Wn.yes c22 rfl rfl rfl rfl) rfl rfl ?_
    refine DL.not (i:=10) rfl (Wn.yes c22 rfl rfl rfl rfl) rfl rfl ?_
    refine DL.not (i:=11) rfl (Wn.yes c22 rfl rfl rfl rfl) rfl rfl ?_
    refine DL.pu 26 (.bool true) rfl (p_pick_t c22 rfl rfl rfl) ?_
    obtain rfl:=Option.some.inj h23
    exact DL.weak J21 (Sub.cons rfl (Sub.cons rfl (Sub.cons rfl (Sub.cons rfl (Sub.nil _)))))
   ·
    replace c22:=Bool.eq_false_iff.mpr c22
    have h24:=ite_false c22 h19
    refine DL.pure (v:=str a2) rfl (Wn.no c22 rfl rfl rfl rfl) rfl rfl rfl (p_move rfl rfl) ?_
    refine DL.pure (v:=.int .i64 (a2.length : Int)) rfl (Wn.no c22 rfl rfl rfl rfl) rfl rfl rfl (p_strLen ty_u9 rfl rfl) ?_
    refine DL.pure (v:=.bool (decide (3000 < (a2.length : Int)))) rfl (Wn.no c22 rfl rfl rfl rfl) rfl rfl rfl (p_gtr rfl rfl rfl) ?_
    refine DL.pu 26 (.bool (decide (3000 < (a2.length : Int)))) rfl (p_pick_f c22 rfl rfl rfl) ?_
    obtain rfl:=Option.some.inj h24
    exact DL.weak J21 (Sub.cons rfl (Sub.cons rfl (Sub.cons rfl (Sub.cons rfl (Sub.nil _)))))
 ·
  by_cases c11 : (decide (300 < t3)) = true
  ·
   have h12:=ite_true c11 h8
   refine DL.not (i:=4) rfl (Wn.yes c11 rfl rfl rfl rfl) rfl rfl ?_
   refine DL.not (i:=5) rfl (Wn.yes c11 rfl rfl rfl rfl) rfl rfl ?_
   refine DL.not (i:=6) rfl (Wn.yes c11 rfl rfl rfl rfl) rfl rfl ?_
   refine DL.pu 21 (.bool true) rfl (p_pick_t c11 rfl rfl rfl) ?_
   obtain rfl:=Option.some.inj h12
   exact DL.weak J10 (Sub.cons rfl (Sub.cons rfl (Sub.cons rfl (Sub.cons rfl (Sub.nil _)))))
  ·
   replace c11:=Bool.eq_false_iff.mpr c11
   have h13:=ite_false c11 h8
   refine DL.quiet (v:=.agg (Tm.ce a1 a1_2)) rfl (Wn.no c11 rfl rfl rfl rfl) rfl rfl rfl (f_loadA (j:=0) ty_a25 ty_s25 rfl rfl rfl rfl) ?_
   obtain ⟨t14,h15,h16⟩:=bind_some h13
   refine DL.quiet (v:=.int .i64 t14) rfl (Wn.no c11 rfl rfl rfl rfl) rfl rfl rfl (f_callR rfl rfl (args_val (vs:=[.agg (Tm.ce a1 a1_2),.int .i64 301]) rfl) (fun w => enter13 _ w) (fun w hc => ref29_Size.val h15 (M:=M) w (hE.ext hc) hr_a1_2)) ?_
   refine DL.pure (v:=.bool (decide (300 < t14))) rfl (Wn.no c11 rfl rfl rfl rfl) rfl rfl rfl (p_gtr rfl rfl rfl) ?_
   refine DL.pu 21 (.bool (decide (300 < t14))) rfl (p_pick_f c11 rfl rfl rfl) ?_
   obtain rfl:=Option.some.inj h16
   exact DL.weak J10 (Sub.cons rfl (Sub.cons rfl (Sub.cons rfl (Sub.cons rfl (Sub.nil _)))))
end Go.Proofs.YtfbogkhgfaibbaaDoor
