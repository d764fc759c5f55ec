import Derived.Test.YtfbogkhgfaibbaaDoorTg2
namespace Go.Proofs.YtfbogkhgfaibbaaDoor
open Go Go.HW Go.RowKit
set_option linter.unusedVariables false
set_option linter.unusedSimpArgs false

/-! ### escutcheon/escutcheonlaw29.TermsForms: function 10 -/
noncomputable def B10 : Code:=bodyOf Tryd.f10
def law29_TermsForms.f (a0 : Tm) (a1 : Tm) (a2 : List UInt8) : Option (Bool):=(ref29_Size.f (Tm.fuel a0) a0 301).bind fun t3 => (if (decide (300 < t3)) = true then (some true) else ((ref29_Size.f (Tm.fuel a1) a1 301).bind fun t14 => some (decide (300 < t14)))).bind fun q7 => (if q7 = true then (some true) else (some (decide (3000 < (a2.length : Int))))).bind fun q18 => if q18 = true then ((law29_known.f).bind fun t27 => some t27) else ((terms_Order.f a0).bind fun t31 => (terms_Text.f t31).bind fun (t35_0,t35_1) => (terms_Order.f a1).bind fun t39 => (terms_Text.f t39).bind fun (t43_0,t43_1) => (terms_Order.f a0).bind fun t47 => (terms_Order.f t47).bind fun t51 => (terms_Text.f t51).bind fun (t55_0,t55_1) => (law29_num.f t35_1).bind fun t59 => (law29_num.f t55_1).bind fun t62 => (if (t59 != t62) = true then (some true) else (some (!(t35_0 == t55_0)))).bind fun q66 => (if q66 = true then (some true) else ((law29_num.f t35_1).bind fun t81 => (law29_num.f t43_1).bind fun t84 => (if ((IntKind.i64.wrap (t81 + t84)) == 0) = true then ((terms_Same.f a0 a1).bind fun t94 => some (!((t35_0 == t43_0) == t94))) else (some false)).bind fun q88 => some q88)).bind fun q74 => if q74 = true then (some false) else ((terms_Of.f a2).bind fun (t101_0,t101_1) => (law29_num.f t101_1).bind fun t107 => if (t107 == 0) = true then ((terms_Text.f t101_0).bind fun (t112_0,t112_1) => (if (!(t112_0 == a2)) = true then (some true) else ((law29_num.f t112_1).bind fun t123 => some (t123 != 0))).bind fun q116 => if q116 = true then (some false) else ((law29_known.f).bind fun t129 => some t129)) else ((law29_known.f).bind fun t133 => some t133)))
set_option maxRecDepth 20000 in
theorem law29_TermsForms.ok {a0 : Tm} {a1 : Tm} {a2 : List UInt8} {a0_2 : Value} {a1_2 : Value} {r : Bool} (h : law29_TermsForms.f a0 a1 a2 = some r) {M : Mem} (w : World) (hM : Ext M (heapOf w)) (hG : GlobE M) (hr_a0_2 : RowS ShTm M a0_2 (Tree.kids a0)) (hr_a1_2 : RowS ShTm M a1_2 (Tree.kids a1)) : Calls Tryd.prog 10 #[.agg (Tm.ce a0 a0_2),.agg (Tm.ce a1 a1_2),str a2] w (Post (fun u => u = .bool r) w):=by
 unfold law29_TermsForms.f at h
 have hE:=Env.start hM
 refine calls_of_TT (N:=99) (S:=[(0,.agg (Tm.ce a0 a0_2)),(1,.agg (Tm.ce a1 a1_2)),(2,str a2)]) (c:=B10) Tryd.func10 rfl rfl rfl (by simp) ?_
 show TT _ _ _ _ _ _ [.code (sub [] B10)] _ _
 refine TT.seq (x:=sub [0] B10) (y:=sub [1] B10) ?_
 refine TT.rg [0,1,2] [(.alloc,none),(.alloc,none),kp] rfl rfl ?_
 refine DL.new (ob:=.cells ((Tm.ce a0 a0_2)) 25) (mk:=fun b => ptr b 0) (i:=0) rfl (Wn.none rfl) rfl rfl rfl (f_box (v:=.agg (Tm.ce a0 a0_2)) rfl rfl) ?_
 intro b1 hb1
 refine DL.new (ob:=.cells ((Tm.ce a1 a1_2)) 25) (mk:=fun b => ptr b 0) (i:=1) rfl (Wn.none rfl) rfl rfl rfl (f_box (v:=.agg (Tm.ce a1 a1_2)) rfl rfl) ?_
 intro b2 hb2
 refine DL.pu 6 (.bool false) rfl (p_assign rfl rfl) ?_
 refine DL.nil ?_
 refine TT.seq (x:=sub [1,0] B10) (y:=sub [1,1] B10) ?_
 refine TT.seq (x:=sub [1,0,0] B10) (y:=sub [1,0,1] B10) ?_
 refine TT.rg [0,1,2,3,4,5,6,7,8,9,10,11,12] [kq,kq,kp,kp,kq,kq,kp,kp,kp,kp,kp,kp,kp] rfl rfl ?_
 refine DL.qu 17 (.agg (Tm.ce a0 a0_2)) rfl (f_loadA (j:=1) ty_a25 ty_s25 rfl rfl rfl rfl) ?_
 obtain ⟨t3,h4,h5⟩:=bind_some h
 refine DL.qu 18 (.int .i64 t3) rfl (f_callR rfl rfl (args_val (vs:=[.agg (Tm.ce a0 a0_2),.int .i64 301]) rfl) (fun w => enter13 _ w) (fun w hc => ref29_Size.val h4 (M:=M) w (hE.ext hc) hr_a0_2)) ?_
 refine DL.pu 19 (.bool (decide (300 < t3))) rfl (p_gtr rfl rfl rfl) ?_
 refine DL.mv 20 (.bool (decide (300 < t3))) rfl rfl rfl ?_
 obtain ⟨q7,h8,h9⟩:=bind_some h5
 refine DL.cut [(2,str a2),(3,ptr b1 0),(4,ptr b2 0),(24,.bool q7)] [8,9,10,11,12] ?_ (fun J10 => ?_)
 ·
  refine DL.mv 25 (.bool q7) rfl rfl rfl ?_
  obtain ⟨q18,h19,h20⟩:=bind_some h9
  refine DL.cut [(2,str a2),(3,ptr b1 0),(4,ptr b2 0),(29,.bool q18)] [] ?_ (fun J21 => ?_)
  ·
   refine DL.nil ?_
   by_cases c25 : q18 = true
   ·
    have h26:=ite_true c25 h20
    refine TT.cond_true (x:=sub [1,0,1,0] B10) (y:=sub [1,0,1,1] B10) rfl c25 ?_
    refine TT.seq (x:=sub [1,0,1,0,0] B10) (y:=sub [1,0,1,0,1] B10) ?_
    refine TT.rg [0,1] [kq,kp] rfl rfl ?_
    obtain ⟨t27,h28,h29⟩:=bind_some h26
    refine DL.qu 30 (.bool t27) rfl (f_callR rfl rfl (args_val (vs:=[]) rfl) (fun w => enter11 _ w) (fun w hc => law29_known.val h28 (M:=M) w (hE.ext hc) hG.g)) ?_
    refine DL.pu 6 (.bool t27) rfl (p_assign rfl rfl) ?_
    refine DL.nil ?_
    obtain rfl:=Option.some.inj h29
    exact retnE (rs:=[.tmp 6]) (vs:=[.bool t27]) hE.base Tryd.func10 rfl rfl rfl (res_cons (ResV.tmp rfl) res_nil) rfl
   ·
    replace c25:=Bool.eq_false_iff.mpr c25
    have h30:=ite_false c25 h20
    refine TT.cond_false (x:=sub [1,0,1,0] B10) (y:=sub [1,0,1,1] B10) rfl c25 ?_
    refine TT.skip ?_
    refine TT.seq (x:=sub [1,1,0] B10) (y:=sub [1,1,1] B10) ?_
    refine TT.rg [0,1,2,3,4,5,6,7] [kq,kk,kq,kp,kp,kp,kp,kp] rfl rfl ?_
    refine DL.qu 32 (.agg (Tm.ce a0 a0_2)) rfl (f_loadA (j:=1) ty_a25 ty_s25 rfl rfl rfl rfl) ?_
    obtain ⟨t31,h32,h33⟩:=bind_some h30
    refine DL.callF (G:=Value) (u:=fun g => .agg (Tm.ce t31 g)) (Q:=fun g M_ => (RowS ShTm M_ g (Tree.kids t31))) (A:=[(some b2,.cells ((Tm.ce a1 a1_2)) 25 (0,0)),(some b1,.cells ((Tm.ce a0 a0_2)) 25 (0,0))]) (J:=[]) (fun J34 => ((some b2,.cells ((Tm.ce a1 a1_2)) 25 (0,0)) :: (some b1,.cells ((Tm.ce a0 a0_2)) 25 (0,0)) :: J34)) (Nat.le_refl _) hE.nil (List.append_nil _).symm (fun _ => rfl) (by simp [kind_mk,num_mk]) (i:=1) rfl (Wn.none rfl) rfl rfl rfl rfl rfl rfl (args_val (vs:=[.agg (Tm.ce a0 a0_2)]) rfl) (fun w => enter33 _ w) (fun w hc hI => terms_Order.ok h32 (M:=M) w hI hG.g hr_a0_2) ?_
    rintro t31_2 M34 J34 hE34 hx34 hr_t31_2
    show DL _ _ _ _ _ _ _ _ _ _ _ _ ((some b2,.cells ((Tm.ce a1 a1_2)) 25 (0,0)) :: (some b1,.cells ((Tm.ce a0 a0_2)) 25 (0,0)) :: J34)
    obtain ⟨⟨t35_0,t35_1⟩,h36,h37⟩:=bind_some h33
    refine DL.qu 34 (.tuple #[str t35_0,.int .i64 t35_1]) rfl (f_callR rfl rfl (args_val (vs:=[.agg (Tm.ce t31 t31_2)]) rfl) (fun w => enter28 _ w) (fun w hc => terms_Text.val h36 (M:=M34) w (hE34.extJ (A:=[(some b2,.cells ((Tm.ce a1 a1_2)) 25 (0,0)),(some b1,.cells ((Tm.ce a0 a0_2)) 25 (0,0))]) hc rfl) (Glob.mono hG.g hx34) hr_t31_2)) ?_
    refine DL.mv 31 (.tuple #[str t35_0,.int .i64 t35_1]) rfl rfl rfl ?_
    refine DL.pu 35 (str t35_0) rfl (p_extract rfl rfl rfl) ?_
    refine DL.pu 36 (.int .i64 t35_1) rfl (p_extract rfl rfl rfl) ?_
    refine DL.pu 7 (str t35_0) rfl (p_assign rfl rfl) ?_
    refine DL.pu 8 (.int .i64 t35_1) rfl (p_assign rfl rfl) ?_
    refine DL.nil ?_
    refine TT.settle (A:=[(some b2,.cells ((Tm.ce a1 a1_2)) 25 (0,0)),(some b1,.cells ((Tm.ce a0 a0_2)) 25 (0,0))]) (J:=J34) hE34 ?_
    intro I38 hE38 hxI38
    refine TT.seq (x:=sub [1,1,1,0] B10) (y:=sub [1,1,1,1] B10) ?_
    refine TT.rg [0,1,2,3,4,5,6,7] [kq,kk,kq,kp,kp,kp,kp,kp] rfl rfl ?_
    refine DL.qu 38 (.agg (Tm.ce a1 a1_2)) rfl (f_loadA (j:=0) ty_a25 ty_s25 rfl rfl rfl rfl) ?_
    obtain ⟨t39,h40,h41⟩:=bind_some h37
    refine DL.callF (G:=Value) (u:=fun g => .agg (Tm.ce t39 g)) (Q:=fun g M_ => (RowS ShTm M_ g (Tree.kids t39))) (A:=[(some b2,.cells ((Tm.ce a1 a1_2)) 25 (0,0)),(some b1,.cells ((Tm.ce a0 a0_2)) 25 (0,0))]) (J:=[]) (fun J42 => ((some b2,.cells ((Tm.ce a1 a1_2)) 25 (0,0)) :: (some b1,.cells ((Tm.ce a0 a0_2)) 25 (0,0)) :: J42)) (Nat.le_refl _) hE38.nil (List.append_nil _).symm (fun _ => rfl) (by simp [kind_mk,num_mk]) (i:=1) rfl (Wn.none rfl) rfl rfl rfl rfl rfl rfl (args_val (vs:=[.agg (Tm.ce a1 a1_2)]) rfl) (fun w => enter33 _ w) (fun w hc hI => terms_Order.ok h40 (M:=M34) w hI (Glob.mono hG.g hx34) (RowS.mono hr_a1_2 hx34)) ?_
    rintro t39_2 M42 J42 hE42 hx42 hr_t39_2
    show DL _ _ _ _ _ _ _ _ _ _ _ _ ((some b2,.cells ((Tm.ce a1 a1_2)) 25 (0,0)) :: (some b1,.cells ((Tm.ce a0 a0_2)) 25 (0,0)) :: J42)
    obtain ⟨⟨t43_0,t43_1⟩,h44,h45⟩:=bind_some h41
    refine DL.qu 40 (.tuple #[str t43_0,.int .i64 t43_1]) rfl (f_callR rfl rfl (args_val (vs:=[.agg (Tm.ce t39 t39_2)]) rfl) (fun w => enter28 _ w) (fun w hc => terms_Text.val h44 (M:=M42) w (hE42.extJ (A:=[(some b2,.cells ((Tm.ce a1 a1_2)) 25 (0,0)),(some b1,.cells ((Tm.ce a0 a0_2)) 25 (0,0))]) hc rfl) (Glob.mono hG.g (hx34.trans hx42)) hr_t39_2)) ?_
    refine DL.mv 37 (.tuple #[str t43_0,.int .i64 t43_1]) rfl rfl rfl ?_
    refine DL.pu 41 (str t43_0) rfl (p_extract rfl rfl rfl) ?_
    refine DL.pu 42 (.int .i64 t43_1) rfl (p_extract rfl rfl rfl) ?_
    refine DL.pu 9 (str t43_0) rfl (p_assign rfl rfl) ?_
    refine DL.pu 10 (.int .i64 t43_1) rfl (p_assign rfl rfl) ?_
    refine DL.nil ?_
    refine TT.settle (A:=[(some b2,.cells ((Tm.ce a1 a1_2)) 25 (0,0)),(some b1,.cells ((Tm.ce a0 a0_2)) 25 (0,0))]) (J:=J42) hE42 ?_
    intro I46 hE46 hxI46
    refine TT.seq (x:=sub [1,1,1,1,0] B10) (y:=sub [1,1,1,1,1] B10) ?_
    refine TT.rg [0,1,2,3,4,5,6,7,8] [kq,kk,kk,kq,kp,kp,kp,kp,kp] rfl rfl ?_
    refine DL.qu 44 (.agg (Tm.ce a0 a0_2)) rfl (f_loadA (j:=1) ty_a25 ty_s25 rfl rfl rfl rfl) ?_
    obtain ⟨t47,h48,h49⟩:=bind_some h45
    refine DL.callF (G:=Value) (u:=fun g => .agg (Tm.ce t47 g)) (Q:=fun g M_ => (RowS ShTm M_ g (Tree.kids t47))) (A:=[(some b2,.cells ((Tm.ce a1 a1_2)) 25 (0,0)),(some b1,.cells ((Tm.ce a0 a0_2)) 25 (0,0))]) (J:=[]) (fun J50 => ((some b2,.cells ((Tm.ce a1 a1_2)) 25 (0,0)) :: (some b1,.cells ((Tm.ce a0 a0_2)) 25 (0,0)) :: J50)) (Nat.le_refl _) hE46.nil (List.append_nil _).symm (fun _ => rfl) (by simp [kind_mk,num_mk]) (i:=1) rfl (Wn.none rfl) rfl rfl rfl rfl rfl rfl (args_val (vs:=[.agg (Tm.ce a0 a0_2)]) rfl) (fun w => enter33 _ w) (fun w hc hI => terms_Order.ok h48 (M:=M42) w hI (Glob.mono hG.g (hx34.trans hx42)) (RowS.mono hr_a0_2 (hx34.trans hx42))) ?_
    rintro t47_2 M50 J50 hE50 hx50 hr_t47_2
    show DL _ _ _ _ _ _ _ _ _ _ _ _ ((some b2,.cells ((Tm.ce a1 a1_2)) 25 (0,0)) :: (some b1,.cells ((Tm.ce a0 a0_2)) 25 (0,0)) :: J50)
    obtain ⟨t51,h52,h53⟩:=bind_some h49
    refine DL.callF (G:=Value) (u:=fun g => .agg (Tm.ce t51 g)) (Q:=fun g M_ => (RowS ShTm M_ g (Tree.kids t51))) (A:=[(some b2,.cells ((Tm.ce a1 a1_2)) 25 (0,0)),(some b1,.cells ((Tm.ce a0 a0_2)) 25 (0,0))]) (J:=J50) (fun J54 => ((some b2,.cells ((Tm.ce a1 a1_2)) 25 (0,0)) :: (some b1,.cells ((Tm.ce a0 a0_2)) 25 (0,0)) :: J54)) (Nat.le_refl _) hE50 rfl (fun _ => rfl) (by simp [kind_mk,num_mk]) (i:=2) rfl (Wn.none rfl) rfl rfl rfl rfl rfl rfl (args_val (vs:=[.agg (Tm.ce t47 t47_2)]) rfl) (fun w => enter33 _ w) (fun w hc hI => terms_Order.ok h52 (M:=M50) w hI (Glob.mono hG.g ((hx34.trans hx42).trans hx50)) hr_t47_2) ?_
    rintro t51_2 M54 J54 hE54 hx54 hr_t51_2
    show DL _ _ _ _ _ _ _ _ _ _ _ _ ((some b2,.cells ((Tm.ce a1 a1_2)) 25 (0,0)) :: (some b1,.cells ((Tm.ce a0 a0_2)) 25 (0,0)) :: J54)
    obtain ⟨⟨t55_0,t55_1⟩,h56,h57⟩:=bind_some h53
    refine DL.qu 47 (.tuple #[str t55_0,.int .i64 t55_1]) rfl (f_callR rfl rfl (args_val (vs:=[.agg (Tm.ce t51 t51_2)]) rfl) (fun w => enter28 _ w) (fun w hc => terms_Text.val h56 (M:=M54) w (hE54.extJ (A:=[(some b2,.cells ((Tm.ce a1 a1_2)) 25 (0,0)),(some b1,.cells ((Tm.ce a0 a0_2)) 25 (0,0))]) hc rfl) (Glob.mono hG.g (((hx34.trans hx42).trans hx50).trans hx54)) hr_t51_2)) ?_
    refine DL.mv 43 (.tuple #[str t55_0,.int .i64 t55_1]) rfl rfl rfl ?_
    refine DL.pu 48 (str t55_0) rfl (p_extract rfl rfl rfl) ?_
    refine DL.pu 49 (.int .i64 t55_1) rfl (p_extract rfl rfl rfl) ?_
    refine DL.pu 11 (str t55_0) rfl (p_assign rfl rfl) ?_
    refine DL.pu 12 (.int .i64 t55_1) rfl (p_assign rfl rfl) ?_
    refine DL.nil ?_
    refine TT.settle (A:=[(some b2,.cells ((Tm.ce a1 a1_2)) 25 (0,0)),(some b1,.cells ((Tm.ce a0 a0_2)) 25 (0,0))]) (J:=J54) hE54 ?_
    intro I58 hE58 hxI58
    refine TT.seq (x:=sub [1,1,1,1,1,0] B10) (y:=sub [1,1,1,1,1,1] B10) ?_
    refine TT.seq (x:=sub [1,1,1,1,1,0,0] B10) (y:=sub [1,1,1,1,1,0,1] B10) ?_
    refine TT.rg [0,1,2,3,4,5,6,7,8,9,10,11,12,13,14,15,16,17,18,19,20,21,22,23,24,25,26] [kp,kq,kp,kq,kp,kp,kp,kp,kp,kp,kp,kp,kq,kp,kq,kp,kp,kp,kp,kp,kp,kq,kq,kq,kp,kp,kp] rfl rfl ?_
    refine DL.mv 50 (.int .i64 t35_1) rfl rfl rfl ?_
    obtain ⟨t59,h60,h61⟩:=bind_some h57
    refine DL.qu 51 (.int .i64 t59) rfl (f_callR rfl rfl (args_val (vs:=[.int .i64 t35_1]) rfl) (fun w => enter24 _ w) (fun w hc => law29_num.val h60 (M:=M54) w (hE58.ext hc) )) ?_
    refine DL.mv 52 (.int .i64 t55_1) rfl rfl rfl ?_
    obtain ⟨t62,h63,h64⟩:=bind_some h61
    refine DL.qu 53 (.int .i64 t62) rfl (f_callR rfl rfl (args_val (vs:=[.int .i64 t55_1]) rfl) (fun w => enter24 _ w) (fun w hc => law29_num.val h63 (M:=M54) w (hE58.ext hc) )) ?_
    refine DL.pu 54 (.bool (t59 != t62)) rfl (p_neq rfl rfl rfl) ?_
    refine DL.mv 55 (.bool (t59 != t62)) rfl rfl rfl ?_
    obtain ⟨q66,h67,h68⟩:=bind_some h64
    refine DL.cut [(2,str a2),(3,ptr b1 0),(4,ptr b2 0),(7,str t35_0),(8,.int .i64 t35_1),(9,str t43_0),(10,.int .i64 t43_1),(59,.bool q66)] [10,11,12,13,14,15,16,17,18,19,20,21,22,23,24,25,26] ?_ (fun J69 => ?_)
    ·
     refine DL.mv 60 (.bool q66) rfl rfl rfl ?_
     obtain ⟨q74,h75,h76⟩:=bind_some h68
     refine DL.cut [(2,str a2),(76,.bool q74)] [] ?_ (fun J77 => ?_)
     ·
      refine DL.nil ?_
      by_cases c98 : q74 = true
      ·
       have h99:=ite_true c98 h76
       refine TT.cond_true (x:=sub [1,1,1,1,1,0,1,0] B10) (y:=sub [1,1,1,1,1,0,1,1] B10) rfl c98 ?_
       refine TT.seq (x:=sub [1,1,1,1,1,0,1,0,0] B10) (y:=sub [1,1,1,1,1,0,1,0,1] B10) ?_
       refine TT.rg [0] [kp] rfl rfl ?_
       refine DL.pu 6 (.bool false) rfl (p_assign rfl rfl) ?_
       refine DL.nil ?_
       obtain rfl:=Option.some.inj h99
       exact retnE (rs:=[.tmp 6]) (vs:=[.bool false]) hE58.base Tryd.func10 rfl rfl rfl (res_cons (ResV.tmp rfl) res_nil) rfl
      ·
       replace c98:=Bool.eq_false_iff.mpr c98
       have h100:=ite_false c98 h76
       refine TT.cond_false (x:=sub [1,1,1,1,1,0,1,0] B10) (y:=sub [1,1,1,1,1,0,1,1] B10) rfl c98 ?_
       refine TT.skip ?_
       refine TT.seq (x:=sub [1,1,1,1,1,1,0] B10) (y:=sub [1,1,1,1,1,1,1] B10) ?_
       refine TT.seq (x:=sub [1,1,1,1,1,1,0,0] B10) (y:=sub [1,1,1,1,1,1,0,1] B10) ?_
       refine TT.rg [0,1,2,3,4,5,6,7] [kp,kk,kp,kp,kp,(.alloc,none),(.store,none),kp] rfl rfl ?_
       refine DL.mv 78 (str a2) rfl rfl rfl ?_
       obtain ⟨⟨t101_0,t101_1⟩,h102,h103⟩:=bind_some h100
       refine DL.callF (G:=Value) (u:=fun g => .tuple #[.agg (Tm.ce t101_0 g),.int .i64 t101_1]) (Q:=fun g M_ => (RowS ShTm M_ g (Tree.kids t101_0))) (A:=[(some b2,.cells ((Tm.ce a1 a1_2)) 25 (0,0)),(some b1,.cells ((Tm.ce a0 a0_2)) 25 (0,0))]) (J:=[]) (fun J104 => ((some b2,.cells ((Tm.ce a1 a1_2)) 25 (0,0)) :: (some b1,.cells ((Tm.ce a0 a0_2)) 25 (0,0)) :: J104)) (Nat.le_refl _) hE58.nil (List.append_nil _).symm (fun _ => rfl) (by simp [kind_mk,num_mk]) (i:=1) rfl (Wn.none rfl) rfl rfl rfl rfl rfl rfl (args_val (vs:=[str a2]) rfl) (fun w => enter29 _ w) (fun w hc hI => terms_Of.ok h102 (M:=M54) w hI (GlobE.mono hG (((hx34.trans hx42).trans hx50).trans hx54))) ?_
       rintro t101_0_2 M104 J104 hE104 hx104 hr_t101_0_2
       show DL _ _ _ _ _ _ _ _ _ _ _ _ ((some b2,.cells ((Tm.ce a1 a1_2)) 25 (0,0)) :: (some b1,.cells ((Tm.ce a0 a0_2)) 25 (0,0)) :: J104)
       refine DL.mv 77 (.tuple #[.agg (Tm.ce t101_0 t101_0_2),.int .i64 t101_1]) rfl rfl rfl ?_
       refine DL.pu 80 (.agg (Tm.ce t101_0 t101_0_2)) rfl (p_extract rfl rfl rfl) ?_
       refine DL.pu 81 (.int .i64 t101_1) rfl (p_extract rfl rfl rfl) ?_
       refine DL.new (ob:=.cells (#[.int .i64 0,.int .i64 0,(.slice none 0 0)]) 25) (mk:=fun b => ptr b 0) (i:=5) rfl (Wn.none rfl) rfl rfl rfl (f_alloc ty_z25 rfl) ?_
       intro b105 hb105
       refine DL.put (H':=((some b105,.cells ((Tm.ce t101_0 t101_0_2)) 25 (0,0)) :: (some b2,.cells ((Tm.ce a1 a1_2)) 25 (0,0)) :: (some b1,.cells ((Tm.ce a0 a0_2)) 25 (0,0)) :: J104)) (i:=6) rfl (Wn.none rfl) rfl rfl (f_storeA (j:=0) ty_s25 rfl rfl rfl (one_cons trivial (one_cons trivial (one_cons (sl_one (RowS.sl hr_t101_0_2)) one_nil))) rfl rfl rfl) (keep_none rfl) ?_
       refine DL.pu 14 (.int .i64 t101_1) rfl (p_assign rfl rfl) ?_
       refine DL.nil ?_
       refine TT.settle (A:=[(some b105,.cells ((Tm.ce t101_0 t101_0_2)) 25 (0,0)),(some b2,.cells ((Tm.ce a1 a1_2)) 25 (0,0)),(some b1,.cells ((Tm.ce a0 a0_2)) 25 (0,0))]) (J:=J104) hE104 ?_
       intro I106 hE106 hxI106
       refine TT.seq (x:=sub [1,1,1,1,1,1,0,1,0] B10) (y:=sub [1,1,1,1,1,1,0,1,1] B10) ?_
       refine TT.rg [0,1,2] [kp,kq,kp] rfl rfl ?_
       refine DL.mv 82 (.int .i64 t101_1) rfl rfl rfl ?_
       obtain ⟨t107,h108,h109⟩:=bind_some h103
       refine DL.qu 83 (.int .i64 t107) rfl (f_callR rfl rfl (args_val (vs:=[.int .i64 t101_1]) rfl) (fun w => enter24 _ w) (fun w hc => law29_num.val h108 (M:=M104) w (hE106.ext hc) )) ?_
       refine DL.pu 84 (.bool (t107 == 0)) rfl (p_eql rfl rfl rfl) ?_
       refine DL.nil ?_
       by_cases c110 : (t107 == 0) = true
       ·
        have h111:=ite_true c110 h109
        refine TT.cond_true (x:=sub [1,1,1,1,1,1,0,1,1,0] B10) (y:=sub [1,1,1,1,1,1,0,1,1,1] B10) rfl c110 ?_
        refine TT.seq (x:=sub [1,1,1,1,1,1,0,1,1,0,0] B10) (y:=sub [1,1,1,1,1,1,0,1,1,0,1] B10) ?_
        refine TT.rg [0,1,2,3,4,5,6] [kq,kq,kp,kp,kp,kp,kp] rfl rfl ?_
        refine DL.qu 86 (.agg (Tm.ce t101_0 t101_0_2)) rfl (f_loadA (j:=0) ty_a25 ty_s25 rfl rfl rfl rfl) ?_
        obtain ⟨⟨t112_0,t112_1⟩,h113,h114⟩:=bind_some h111
        refine DL.qu 87 (.tuple #[str t112_0,.int .i64 t112_1]) rfl (f_callR rfl rfl (args_val (vs:=[.agg (Tm.ce t101_0 t101_0_2)]) rfl) (fun w => enter28 _ w) (fun w hc => terms_Text.val h113 (M:=M104) w (hE106.ext hc) (Glob.mono hG.g ((((hx34.trans hx42).trans hx50).trans hx54).trans hx104)) hr_t101_0_2)) ?_
        refine DL.mv 85 (.tuple #[str t112_0,.int .i64 t112_1]) rfl rfl rfl ?_
        refine DL.pu 88 (str t112_0) rfl (p_extract rfl rfl rfl) ?_
        refine DL.pu 89 (.int .i64 t112_1) rfl (p_extract rfl rfl rfl) ?_
        refine DL.pu 15 (str t112_0) rfl (p_assign rfl rfl) ?_
        refine DL.pu 16 (.int .i64 t112_1) rfl (p_assign rfl rfl) ?_
        refine DL.nil ?_
        refine TT.seq (x:=sub [1,1,1,1,1,1,0,1,1,0,1,0] B10) (y:=sub [1,1,1,1,1,1,0,1,1,0,1,1] B10) ?_
        refine TT.rg [0,1,2,3,4,5,6,7] [kp,kp,kp,kp,kp,kq,kp,kp] rfl rfl ?_
        refine DL.mv 90 (str t112_0) rfl rfl rfl ?_
        refine DL.mv 91 (str a2) rfl rfl rfl ?_
        refine DL.pu 92 (.bool (!(t112_0 == a2))) rfl (p_strNe rfl rfl rfl) ?_
        refine DL.mv 93 (.bool (!(t112_0 == a2))) rfl rfl rfl ?_
        obtain ⟨q116,h117,h118⟩:=bind_some h114
        refine DL.cut [(97,.bool q116)] [] ?_ (fun J119 => ?_)
        ·
         refine DL.nil ?_
         by_cases c126 : q116 = true
         ·
          have h127:=ite_true c126 h118
          refine TT.cond_true (x:=sub [1,1,1,1,1,1,0,1,1,0,1,1,0] B10) (y:=sub [1,1,1,1,1,1,0,1,1,0,1,1,1] B10) rfl c126 ?_
          refine TT.seq (x:=sub [1,1,1,1,1,1,0,1,1,0,1,1,0,0] B10) (y:=sub [1,1,1,1,1,1,0,1,1,0,1,1,0,1] B10) ?_
          refine TT.rg [0] [kp] rfl rfl ?_
          refine DL.pu 6 (.bool false) rfl (p_assign rfl rfl) ?_
          refine DL.nil ?_
          obtain rfl:=Option.some.inj h127
          exact retnE (rs:=[.tmp 6]) (vs:=[.bool false]) hE106.base Tryd.func10 rfl rfl rfl (res_cons (ResV.tmp rfl) res_nil) rfl
         ·
          replace c126:=Bool.eq_false_iff.mpr c126
          have h128:=ite_false c126 h118
          refine TT.cond_false (x:=sub [1,1,1,1,1,1,0,1,1,0,1,1,0] B10) (y:=sub [1,1,1,1,1,1,0,1,1,0,1,1,1] B10) rfl c126 ?_
          refine TT.skip ?_
          refine TT.seq (x:=sub [1,1,1,1,1,1,1,0] B10) (y:=sub [1,1,1,1,1,1,1,1] B10) ?_
          refine TT.rg [0,1] [kq,kp] rfl rfl ?_
          obtain ⟨t129,h130,h131⟩:=bind_some h128
          refine DL.qu 98 (.bool t129) rfl (f_callR rfl rfl (args_val (vs:=[]) rfl) (fun w => enter11 _ w) (fun w hc => law29_known.val h130 (M:=M104) w (hE106.ext hc) (Glob.mono hG.g ((((hx34.trans hx42).trans hx50).trans hx54).trans hx104)))) ?_
          refine DL.pu 6 (.bool t129) rfl (p_assign rfl rfl) ?_
          refine DL.nil ?_
          obtain rfl:=Option.some.inj h131
          exact retnE (rs:=[.tmp 6]) (vs:=[.bool t129]) hE106.base Tryd.func10 rfl rfl rfl (res_cons (ResV.tmp rfl) res_nil) rfl
        ·
         by_cases c120 : (!(t112_0 == a2)) = true
         ·
          have h121:=ite_true c120 h117
          refine DL.not (i:=4) rfl (Wn.yes c120 rfl rfl rfl rfl) rfl rfl ?_
          refine DL.not (i:=5) rfl (Wn.yes c120 rfl rfl rfl rfl) rfl rfl ?_
          refine DL.not (i:=6) rfl (Wn.yes c120 rfl rfl rfl rfl) rfl rfl ?_
          refine DL.pu 97 (.bool true) rfl (p_pick_t c120 rfl rfl rfl) ?_
          obtain rfl:=Option.some.inj h121
          exact DL.weak J119 (Sub.cons rfl (Sub.nil _))
         ·
          replace c120:=Bool.eq_false_iff.mpr c120
          have h122:=ite_false c120 h117
          refine DL.pure (v:=.int .i64 t112_1) rfl (Wn.no c120 rfl rfl rfl rfl) rfl rfl rfl (p_move rfl rfl) ?_
          obtain ⟨t123,h124,h125⟩:=bind_some h122
          refine DL.quiet (v:=.int .i64 t123) rfl (Wn.no c120 rfl rfl rfl rfl) rfl rfl rfl (f_callR rfl rfl (args_val (vs:=[.int .i64 t112_1]) rfl) (fun w => enter24 _ w) (fun w hc => law29_num.val h124 (M:=M104) w (hE106.ext hc) )) ?_
          refine DL.pure (v:=.bool (t123 != 0)) rfl (Wn.no c120 rfl rfl rfl rfl) rfl rfl rfl (p_neq rfl rfl rfl) ?_
          refine DL.pu 97 (.bool (t123 != 0)) rfl (p_pick_f c120 rfl rfl rfl) ?_
          obtain rfl:=Option.some.inj h125
          exact DL.weak J119 (Sub.cons rfl (Sub.nil _))
       ·
        replace c110:=Bool.eq_false_iff.mpr c110
        have h132:=ite_false c110 h109
        refine TT.cond_false (x:=sub [1,1,1,1,1,1,0,1,1,0] B10) (y:=sub [1,1,1,1,1,1,0,1,1,1] B10) rfl c110 ?_
        refine TT.skip ?_
        refine TT.seq (x:=sub [1,1,1,1,1,1,1,0] B10) (y:=sub [1,1,1,1,1,1,1,1] B10) ?_
        refine TT.rg [0,1] [kq,kp] rfl rfl ?_
        obtain ⟨t133,h134,h135⟩:=bind_some h132
        refine DL.qu 98 (.bool t133) rfl (f_callR rfl rfl (args_val (vs:=[]) rfl) (fun w => enter11 _ w) (fun w hc => law29_known.val h134 (M:=M104) w (hE106.ext hc) (Glob.mono hG.g ((((hx34.trans hx42).trans hx50).trans hx54).trans hx104)))) ?_
        refine DL.pu 6 (.bool t133) rfl (p_assign rfl rfl) ?_
        refine DL.nil ?_
        obtain rfl:=Option.some.inj h135
        exact retnE (rs:=[.tmp 6]) (vs:=[.bool t133]) hE106.base Tryd.func10 rfl rfl rfl (res_cons (ResV.tmp rfl) res_nil) rfl
     ·
      by_cases c78 : q66 = true
      ·
       have h79:=ite_true c78 h75
       refine DL.not (i:=11) rfl (Wn.yes c78 rfl rfl rfl rfl) rfl rfl ?_
       refine DL.not (i:=12) rfl (Wn.yes c78 rfl rfl rfl rfl) rfl rfl ?_
       refine DL.not (i:=13) rfl (Wn.yes c78 rfl rfl rfl rfl) rfl rfl ?_
       refine DL.not (i:=14) rfl (Wn.yes c78 rfl rfl rfl rfl) rfl rfl ?_
       refine DL.not (i:=15) rfl (Wn.yes c78 rfl rfl rfl rfl) rfl rfl ?_
       refine DL.not (i:=16) rfl (Wn.yes c78 rfl rfl rfl rfl) rfl rfl ?_
       refine DL.not (i:=17) rfl (Wn.yes c78 rfl rfl rfl rfl) rfl rfl ?_
       refine DL.not (i:=18) rfl (Wn.undef rfl rfl rfl) rfl rfl ?_
       refine DL.not (i:=19) rfl (Wn.undef rfl rfl rfl) rfl rfl ?_
       refine DL.not (i:=20) rfl (Wn.undef rfl rfl rfl) rfl rfl ?_
       refine DL.not (i:=21) rfl (Wn.undef rfl rfl rfl) rfl rfl ?_
       refine DL.not (i:=22) rfl (Wn.undef rfl rfl rfl) rfl rfl ?_
       refine DL.not (i:=23) rfl (Wn.undef rfl rfl rfl) rfl rfl ?_
       refine DL.not (i:=24) rfl (Wn.undef rfl rfl rfl) rfl rfl ?_
       refine DL.not (i:=25) rfl (Wn.yes c78 rfl rfl rfl rfl) rfl rfl ?_
       refine DL.pu 76 (.bool true) rfl (p_pick_t c78 rfl rfl rfl) ?_
       obtain rfl:=Option.some.inj h79
       exact DL.weak J77 (Sub.cons rfl (Sub.cons rfl (Sub.nil _)))
      ·
       replace c78:=Bool.eq_false_iff.mpr c78
       have h80:=ite_false c78 h75
       refine DL.pure (v:=.int .i64 t35_1) rfl (Wn.no c78 rfl rfl rfl rfl) rfl rfl rfl (p_move rfl rfl) ?_
       obtain ⟨t81,h82,h83⟩:=bind_some h80
       refine DL.quiet (v:=.int .i64 t81) rfl (Wn.no c78 rfl rfl rfl rfl) rfl rfl rfl (f_callR rfl rfl (args_val (vs:=[.int .i64 t35_1]) rfl) (fun w => enter24 _ w) (fun w hc => law29_num.val h82 (M:=M54) w (hE58.ext hc) )) ?_
       refine DL.pure (v:=.int .i64 t43_1) rfl (Wn.no c78 rfl rfl rfl rfl) rfl rfl rfl (p_move rfl rfl) ?_
       obtain ⟨t84,h85,h86⟩:=bind_some h83
       refine DL.quiet (v:=.int .i64 t84) rfl (Wn.no c78 rfl rfl rfl rfl) rfl rfl rfl (f_callR rfl rfl (args_val (vs:=[.int .i64 t43_1]) rfl) (fun w => enter24 _ w) (fun w hc => law29_num.val h85 (M:=M54) w (hE58.ext hc) )) ?_
       refine DL.pure (v:=.int .i64 (IntKind.i64.wrap (t81 + t84))) rfl (Wn.no c78 rfl rfl rfl rfl) rfl rfl rfl (p_add rfl rfl rfl) ?_
       refine DL.pure (v:=.bool ((IntKind.i64.wrap (t81 + t84)) == 0)) rfl (Wn.no c78 rfl rfl rfl rfl) rfl rfl rfl (p_eql rfl rfl rfl) ?_
       refine DL.pure (v:=.bool ((IntKind.i64.wrap (t81 + t84)) == 0)) rfl (Wn.no c78 rfl rfl rfl rfl) rfl rfl rfl (p_move rfl rfl) ?_
       obtain ⟨q88,h89,h90⟩:=bind_some h86
       refine DL.cut [(2,str a2),(60,.bool q66),(75,.bool q88)] [26] ?_ (fun J91 => ?_)
       ·
        refine DL.pu 76 (.bool q88) rfl (p_pick_f c78 rfl rfl rfl) ?_
        obtain rfl:=Option.some.inj h90
        exact DL.weak J77 (Sub.cons rfl (Sub.cons rfl (Sub.nil _)))
       ·
        by_cases c92 : ((IntKind.i64.wrap (t81 + t84)) == 0) = true
        ·
         have h93:=ite_true c92 h89
         refine DL.pure (v:=str t35_0) rfl (Wn.yes c92 rfl rfl rfl rfl) rfl rfl rfl (p_move rfl rfl) ?_
         refine DL.pure (v:=str t43_0) rfl (Wn.yes c92 rfl rfl rfl rfl) rfl rfl rfl (p_move rfl rfl) ?_
         refine DL.pure (v:=.bool (t35_0 == t43_0)) rfl (Wn.yes c92 rfl rfl rfl rfl) rfl rfl rfl (p_strEq rfl rfl rfl) ?_
         refine DL.quiet (v:=.agg (Tm.ce a0 a0_2)) rfl (Wn.yes c92 rfl rfl rfl rfl) rfl rfl rfl (f_loadA (j:=1) ty_a25 ty_s25 rfl rfl rfl rfl) ?_
         refine DL.quiet (v:=.agg (Tm.ce a1 a1_2)) rfl (Wn.yes c92 rfl rfl rfl rfl) rfl rfl rfl (f_loadA (j:=0) ty_a25 ty_s25 rfl rfl rfl rfl) ?_
         obtain ⟨t94,h95,h96⟩:=bind_some h93
         refine DL.quiet (v:=.bool t94) rfl (Wn.yes c92 rfl rfl rfl rfl) rfl rfl rfl (f_callR rfl rfl (args_val (vs:=[.agg (Tm.ce a0 a0_2),.agg (Tm.ce a1 a1_2)]) rfl) (fun w => enter32 _ w) (fun w hc => terms_Same.val h95 (M:=M54) w (hE58.ext hc) (Glob.mono hG.g (((hx34.trans hx42).trans hx50).trans hx54)) (RowS.mono hr_a0_2 (((hx34.trans hx42).trans hx50).trans hx54)) (RowS.mono hr_a1_2 (((hx34.trans hx42).trans hx50).trans hx54)))) ?_
         refine DL.pure (v:=.bool (!((t35_0 == t43_0) == t94))) rfl (Wn.yes c92 rfl rfl rfl rfl) rfl rfl rfl (p_neb ty_u4 rfl rfl rfl) ?_
         refine DL.pure (v:=.bool (!((t35_0 == t43_0) == t94))) rfl (Wn.no c78 rfl rfl rfl rfl) rfl rfl rfl (p_pick_t c92 rfl rfl rfl) ?_
         obtain rfl:=Option.some.inj h96
         exact DL.weak J91 (Sub.cons rfl (Sub.cons rfl (Sub.cons rfl (Sub.nil _))))
        ·
         replace c92:=Bool.eq_false_iff.mpr c92
         have h97:=ite_false c92 h89
         refine DL.not (i:=18) rfl (Wn.no c92 rfl rfl rfl rfl) rfl rfl ?_
         refine DL.not (i:=19) rfl (Wn.no c92 rfl rfl rfl rfl) rfl rfl ?_
         refine DL.not (i:=20) rfl (Wn.no c92 rfl rfl rfl rfl) rfl rfl ?_
         refine DL.not (i:=21) rfl (Wn.no c92 rfl rfl rfl rfl) rfl rfl ?_
         refine DL.not (i:=22) rfl (Wn.no c92 rfl rfl rfl rfl) rfl rfl ?_
         refine DL.not (i:=23) rfl (Wn.no c92 rfl rfl rfl rfl) rfl rfl ?_
         refine DL.not (i:=24) rfl (Wn.no c92 rfl rfl rfl rfl) rfl rfl ?_
         refine DL.pure (v:=.bool false) rfl (Wn.no c78 rfl rfl rfl rfl) rfl rfl rfl (p_pick_f c92 rfl rfl rfl) ?_
         obtain rfl:=Option.some.inj h97
         exact DL.weak J91 (Sub.cons rfl (Sub.cons rfl (Sub.cons rfl (Sub.nil _))))
    ·
     by_cases c70 : (t59 != t62) = true
     ·
      have h71:=ite_true c70 h67
      refine DL.not (i:=6) rfl (Wn.yes c70 rfl rfl rfl rfl) rfl rfl ?_
      refine DL.not (i:=7) rfl (Wn.yes c70 rfl rfl rfl rfl) rfl rfl ?_
      refine DL.not (i:=8) rfl (Wn.yes c70 rfl rfl rfl rfl) rfl rfl ?_
      refine DL.pu 59 (.bool true) rfl (p_pick_t c70 rfl rfl rfl) ?_
      obtain rfl:=Option.some.inj h71
      exact DL.weak J69 (Sub.cons rfl (Sub.cons rfl (Sub.cons rfl (Sub.cons rfl (Sub.cons rfl (Sub.cons rfl (Sub.cons rfl (Sub.cons rfl (Sub.nil _)))))))))
     ·
      replace c70:=Bool.eq_false_iff.mpr c70
      have h72:=ite_false c70 h67
      refine DL.pure (v:=str t35_0) rfl (Wn.no c70 rfl rfl rfl rfl) rfl rfl rfl (p_move rfl rfl) ?_
      refine DL.pure (v:=str t55_0) rfl (Wn.no c70 rfl rfl rfl rfl) rfl rfl rfl (p_move rfl rfl) ?_
      refine DL.pure (v:=.bool (!(t35_0 == t55_0))) rfl (Wn.no c70 rfl rfl rfl rfl) rfl rfl rfl (p_strNe rfl rfl rfl) ?_
      refine DL.pu 59 (.bool (!(t35_0 == t55_0))) rfl (p_pick_f c70 rfl rfl rfl) ?_
      obtain rfl:=Option.some.inj h72
      exact DL.weak J69 (Sub.cons rfl (Sub.cons rfl (Sub.cons rfl (Sub.cons rfl (Sub.cons rfl (Sub.cons rfl (Sub.cons rfl (Sub.cons rfl (Sub.nil _)))))))))
  ·
   by_cases c22 : q7 = true
   ·
    have h23:=ite_true c22 h19
    refine DL.not (i:=9) rfl (Wn.yes c22 rfl rfl rfl rfl) rfl rfl ?_
    refine DL.not (i:=10) rfl (Wn.yes c22 rfl rfl rfl rfl) rfl rfl ?_
    refine DL.not (i:=11) rfl (Wn.yes c22 rfl rfl rfl rfl) rfl rfl ?_
    refine DL.pu 29 (.bool true) rfl (p_pick_t c22 rfl rfl rfl) ?_
    obtain rfl:=Option.some.inj h23
    exact DL.weak J21 (Sub.cons rfl (Sub.cons rfl (Sub.cons rfl (Sub.cons rfl (Sub.nil _)))))
   ·
    replace c22:=Bool.eq_false_iff.mpr c22
    have h24:=ite_false c22 h19
    refine DL.pure (v:=str a2) rfl (Wn.no c22 rfl rfl rfl rfl) rfl rfl rfl (p_move rfl rfl) ?_
    refine DL.pure (v:=.int .i64 (a2.length : Int)) rfl (Wn.no c22 rfl rfl rfl rfl) rfl rfl rfl (p_strLen ty_u9 rfl rfl) ?_
    refine DL.pure (v:=.bool (decide (3000 < (a2.length : Int)))) rfl (Wn.no c22 rfl rfl rfl rfl) rfl rfl rfl (p_gtr rfl rfl rfl) ?_
    refine DL.pu 29 (.bool (decide (3000 < (a2.length : Int)))) rfl (p_pick_f c22 rfl rfl rfl) ?_
    obtain rfl:=Option.some.inj h24
    exact DL.weak J21 (Sub.cons rfl (Sub.cons rfl (Sub.cons rfl (Sub.cons rfl (Sub.nil _)))))
 ·
  by_cases c11 : (decide (300 < t3)) = true
  ·
   have h12:=ite_true c11 h8
   refine DL.not (i:=4) rfl (Wn.yes c11 rfl rfl rfl rfl) rfl rfl ?_
   refine DL.not (i:=5) rfl (Wn.yes c11 rfl rfl rfl rfl) rfl rfl ?_
   refine DL.not (i:=6) rfl (Wn.yes c11 rfl rfl rfl rfl) rfl rfl ?_
   refine DL.pu 24 (.bool true) rfl (p_pick_t c11 rfl rfl rfl) ?_
   obtain rfl:=Option.some.inj h12
   exact DL.weak J10 (Sub.cons rfl (Sub.cons rfl (Sub.cons rfl (Sub.cons rfl (Sub.nil _)))))
  ·
   replace c11:=Bool.eq_false_iff.mpr c11
   have h13:=ite_false c11 h8
   refine DL.quiet (v:=.agg (Tm.ce a1 a1_2)) rfl (Wn.no c11 rfl rfl rfl rfl) rfl rfl rfl (f_loadA (j:=0) ty_a25 ty_s25 rfl rfl rfl rfl) ?_
   obtain ⟨t14,h15,h16⟩:=bind_some h13
   refine DL.quiet (v:=.int .i64 t14) rfl (Wn.no c11 rfl rfl rfl rfl) rfl rfl rfl (f_callR rfl rfl (args_val (vs:=[.agg (Tm.ce a1 a1_2),.int .i64 301]) rfl) (fun w => enter13 _ w) (fun w hc => ref29_Size.val h15 (M:=M) w (hE.ext hc) hr_a1_2)) ?_
   refine DL.pure (v:=.bool (decide (300 < t14))) rfl (Wn.no c11 rfl rfl rfl rfl) rfl rfl rfl (p_gtr rfl rfl rfl) ?_
   refine DL.pu 24 (.bool (decide (300 < t14))) rfl (p_pick_f c11 rfl rfl rfl) ?_
   obtain rfl:=Option.some.inj h16
   exact DL.weak J10 (Sub.cons rfl (Sub.cons rfl (Sub.cons rfl (Sub.cons rfl (Sub.nil _)))))
end Go.Proofs.YtfbogkhgfaibbaaDoor
