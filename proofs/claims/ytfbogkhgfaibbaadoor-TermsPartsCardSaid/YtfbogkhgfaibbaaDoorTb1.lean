import Derived.Test.YtfbogkhgfaibbaaDoorTmX
import Derived.Test.YtfbogkhgfaibbaaDoorHw26
import Derived.Test.YtfbogkhgfaibbaaDoorTa8
namespace Go.Proofs.YtfbogkhgfaibbaaDoor
open Go Go.HW Go.RowKit
set_option linter.unusedVariables false
set_option linter.unusedSimpArgs false

theorem enter36 (args : Array Value) (w : World) : (callFunc 36 args).run Tryd.prog w = .ok (.enter 36 args) w:=by kernel_rfl
theorem enter37 (args : Array Value) (w : World) : (callFunc 37 args).run Tryd.prog w = .ok (.enter 37 args) w:=by kernel_rfl
theorem enter34 (args : Array Value) (w : World) : (callFunc 34 args).run Tryd.prog w = .ok (.enter 34 args) w:=by kernel_rfl
theorem enter16 (args : Array Value) (w : World) : (callFunc 16 args).run Tryd.prog w = .ok (.enter 16 args) w:=by kernel_rfl
theorem enter12 (args : Array Value) (w : World) : (callFunc 12 args).run Tryd.prog w = .ok (.enter 12 args) w:=by kernel_rfl
theorem enter14 (args : Array Value) (w : World) : (callFunc 14 args).run Tryd.prog w = .ok (.enter 14 args) w:=by kernel_rfl
theorem enter11 (args : Array Value) (w : World) : (callFunc 11 args).run Tryd.prog w = .ok (.enter 11 args) w:=by kernel_rfl
theorem ty_u4 (w : World) : (underlying 4).run Tryd.prog w = .ok (.bool) w:=by kernel_rfl
/-! ### escutcheon/terms.Can: function 16 -/
noncomputable def B16 : Code:=bodyOf Tryd.f16
def terms_Can.f (a0 : Tm) (a1 : List Tm) : Option (Bool):=(terms_May.f a0).bind fun t3 => (if t3 = true then ((terms_may.f a1).bind fun t13 => some t13) else (some false)).bind fun q7 => (if q7 = true then ((terms_learn.f a1).bind fun t24 => (terms_forms.f).bind fun _ => (terms_order.f (Tm.fuel a0) a0).bind fun t32 => (terms_canM.f t24 t32).bind fun t36 => some t36) else (some false)).bind fun q18 => some q18
set_option maxRecDepth 20000 in
theorem terms_Can.ok {a0 : Tm} {a1 : List Tm} {a0_2 : Value} {a1_v : Value} {r : Bool} (h : terms_Can.f a0 a1 = some r) {M : Mem} (w : World) (hM : Ext M (heapOf w)) (hG : Glob M) (hr_a0_2 : RowS ShTm M a0_2 (Tree.kids a0)) (hr_a1 : RowS ShTm M a1_v a1) : Calls Tryd.prog 16 #[.agg (Tm.ce a0 a0_2),a1_v] w (Post (fun u => u = .bool r) w):=by
 unfold terms_Can.f at h
 have hE:=Env.start hM
 refine calls_of_TT (N:=19) (S:=[(0,.agg (Tm.ce a0 a0_2)),(1,a1_v)]) (c:=B16) Tryd.func16 rfl rfl rfl (by simp) ?_
 show TT _ _ _ _ _ _ [.code (sub [] B16)] _ _
 refine TT.seq (x:=sub [0] B16) (y:=sub [1] B16) ?_
 refine TT.rg [0,1] [(.alloc,none),kp] rfl rfl ?_
 refine DL.new (ob:=.cells ((Tm.ce a0 a0_2)) 25) (mk:=fun b => ptr b 0) (i:=0) rfl (Wn.none rfl) rfl rfl rfl (f_box (v:=.agg (Tm.ce a0 a0_2)) rfl rfl) ?_
 intro b1 hb1
 refine DL.pu 4 (.bool false) rfl (p_assign rfl rfl) ?_
 refine DL.nil ?_
 refine TT.seq (x:=sub [1,0] B16) (y:=sub [1,1] B16) ?_
 refine TT.rgD [0,1,2,3,4,5,6,7,9,8,10,11,12,13,14] [0,1,3,7,15,31,63,127,255,127,511,2047,4095,8191,16383] [(.look,some 0),kq,kp,kp,kq,kp,kp,kp,kk,(.look,some 0),kk,kk,kq,kp,kp] rfl mixed (by kernel_rfl) ?_
 intro w2 hl2 hj2 hz2
 refine DL.look (v:=.agg (Tm.ce a0 a0_2)) (x:=0) (b:=b1) (i:=0) rfl (Wn.none rfl) rfl rfl rfl rfl rfl (List.mem_of_getElem? (i:=0) rfl) (b_loadA ty_a25 ty_s25 rfl rfl rfl) ?_
 obtain ⟨t3,h4,h5⟩:=bind_some h
 refine DL.qu 6 (.bool t3) rfl (f_callR rfl rfl (args_val (vs:=[.agg (Tm.ce a0 a0_2)]) rfl) (fun w => enter31 _ w) (fun w hc => terms_May.val h4 (M:=M) w (hE.ext hc) hr_a0_2)) ?_
 refine DL.mv 7 (.bool t3) rfl rfl rfl ?_
 obtain ⟨q7,h8,h9⟩:=bind_some h5
 refine DL.cut [(1,a1_v),(2,ptr b1 0),(10,.bool q7)] [6,7,9,8,10,11,12,13,14] ?_ (fun J10 => ?_)
 ·
  refine DL.mv 11 (.bool q7) rfl rfl rfl ?_
  obtain ⟨q18,h19,h20⟩:=bind_some h9
  refine DL.cutJ [(some b1,.cells ((Tm.ce a0 a0_2)) 25 (0,0))] M hE [(18,.bool q18)] [14] ?_ (fun J21 => ?_)
  ·
   intro M22 J22 hE22 hx22
   show DL _ _ _ _ _ _ _ _ _ _ _ _ ((some b1,.cells ((Tm.ce a0 a0_2)) 25 (0,0)) :: J22)
   refine DL.pu 4 (.bool q18) rfl (p_assign rfl rfl) ?_
   refine DL.nil' hl2 ?_
   refine TT.settle (A:=[(some b1,.cells ((Tm.ce a0 a0_2)) 25 (0,0))]) (J:=J22) hE22 ?_
   intro I40 hE40 hxI40
   obtain rfl:=Option.some.inj h20
   exact retnE (rs:=[.tmp 4]) (vs:=[.bool q18]) hE40.base Tryd.func16 rfl rfl rfl (res_cons (ResV.tmp rfl) res_nil) rfl
  ·
   by_cases c17 : q7 = true
   ·
    have h23:=ite_true c17 h19
    refine DL.pure (v:=a1_v) rfl (Wn.yes c17 rfl rfl rfl rfl) rfl rfl rfl (p_move rfl rfl) ?_
    refine DL.look (v:=.agg (Tm.ce a0 a0_2)) (x:=0) (b:=b1) (i:=9) rfl (Wn.yes c17 rfl rfl rfl rfl) rfl rfl rfl rfl rfl (List.mem_of_getElem? (i:=0) rfl) (b_loadA ty_a25 ty_s25 rfl rfl rfl) ?_
    obtain ⟨t24,h25,h26⟩:=bind_some h23
    refine DL.callF (G:=Nat) (u:=fun g => .map (some g)) (Q:=fun g M_ => (KMap ShTm M_ g t24)) (A:=[(some b1,.cells ((Tm.ce a0 a0_2)) 25 (0,0))]) (J:=[]) (fun J27 => ((some b1,.cells ((Tm.ce a0 a0_2)) 25 (0,0)) :: J27)) hl2.2.2.2 hE.nil (List.append_nil _).symm (fun _ => rfl) (by simp) (i:=8) rfl (Wn.yes c17 rfl rfl rfl rfl) rfl rfl rfl rfl rfl rfl (args_val (vs:=[a1_v]) rfl) (fun w => enter37 _ w) (fun w hc hI => terms_learn.ok h25 (M:=M) w hI hG hr_a1) ?_
    rintro t24_m M27 J27 hE27 hx27 hm_t24
    show DL _ _ _ _ _ _ _ _ _ _ _ _ ((some b1,.cells ((Tm.ce a0 a0_2)) 25 (0,0)) :: J27)
    obtain ⟨_,h29,h30⟩:=bind_some h26
    refine DL.callF (G:=Nat) (u:=fun g => .map (some g)) (Q:=fun g M_ => (M_ g = some FormsO)) (A:=[(some b1,.cells ((Tm.ce a0 a0_2)) 25 (0,0))]) (J:=J27) (fun J31 => ((some b1,.cells ((Tm.ce a0 a0_2)) 25 (0,0)) :: J31)) hl2.2.2.2 hE27 rfl (fun _ => rfl) (by simp) (i:=10) rfl (Wn.yes c17 rfl rfl rfl rfl) rfl rfl rfl rfl rfl rfl (args_val (vs:=[]) rfl) (fun w => enter40 _ w) (fun w hc hI => terms_forms.ok h29 (M:=M27) w hI ) ?_
    rintro t28_m M31 J31 hE31 hx31 hm_t28
    show DL _ _ _ _ _ _ _ _ _ _ _ _ ((some b1,.cells ((Tm.ce a0 a0_2)) 25 (0,0)) :: J31)
    obtain ⟨t32,h33,h34⟩:=bind_some h30
    refine DL.callF (G:=Value) (u:=fun g => .agg (Tm.ce t32 g)) (Q:=fun g M_ => (RowS ShTm M_ g (Tree.kids t32))) (A:=[(some b1,.cells ((Tm.ce a0 a0_2)) 25 (0,0))]) (J:=J31) (fun J35 => ((some b1,.cells ((Tm.ce a0 a0_2)) 25 (0,0)) :: J35)) hl2.2.2.2 hE31 rfl (fun _ => rfl) (by simp) (i:=11) rfl (Wn.yes c17 rfl rfl rfl rfl) rfl rfl rfl rfl rfl rfl (args_val (vs:=[.agg (Tm.ce a0 a0_2),.map (some t28_m)]) rfl) (fun w => enter39 _ w) (fun w hc hI => terms_order.ok h33 (M:=M31) w hI (Glob.mono hG (hx27.trans hx31)) (RowS.mono hr_a0_2 (hx27.trans hx31)) hm_t28) ?_
    rintro t32_2 M35 J35 hE35 hx35 hr_t32_2
    show DL _ _ _ _ _ _ _ _ _ _ _ _ ((some b1,.cells ((Tm.ce a0 a0_2)) 25 (0,0)) :: J35)
    obtain ⟨t36,h37,h38⟩:=bind_some h34
    refine DL.quiet (v:=.bool t36) rfl (Wn.yes c17 rfl rfl rfl rfl) rfl rfl rfl (f_callR rfl rfl (args_val (vs:=[.map (some t24_m),.agg (Tm.ce t32 t32_2)]) rfl) (fun w => enter38 _ w) (fun w hc => terms_canM.val h37 (M:=M35) w (hE35.extJ (A:=[(some b1,.cells ((Tm.ce a0 a0_2)) 25 (0,0))]) hc rfl) (Glob.mono hG ((hx27.trans hx31).trans hx35)) (KMap.mono hm_t24 (hx31.trans hx35)) hr_t32_2)) ?_
    refine DL.pu 18 (.bool t36) rfl (p_pick_t c17 rfl rfl rfl) ?_
    obtain rfl:=Option.some.inj h38
    exact DL.weak (J21 _ _ hE35 ((hx27.trans hx31).trans hx35)) (Sub.cons rfl (Sub.nil _))
   ·
    replace c17:=Bool.eq_false_iff.mpr c17
    have h39:=ite_false c17 h19
    refine DL.not (i:=7) rfl (Wn.no c17 rfl rfl rfl rfl) rfl rfl ?_
    refine DL.not (i:=9) rfl (Wn.no c17 rfl rfl rfl rfl) rfl rfl ?_
    refine DL.not (i:=8) rfl (Wn.no c17 rfl rfl rfl rfl) rfl rfl ?_
    refine DL.not (i:=10) rfl (Wn.no c17 rfl rfl rfl rfl) rfl rfl ?_
    refine DL.not (i:=11) rfl (Wn.no c17 rfl rfl rfl rfl) rfl rfl ?_
    refine DL.not (i:=12) rfl (Wn.no c17 rfl rfl rfl rfl) rfl rfl ?_
    refine DL.pu 18 (.bool false) rfl (p_pick_f c17 rfl rfl rfl) ?_
    obtain rfl:=Option.some.inj h39
    exact DL.weak (J21 _ _ hE.nil (Ext.refl _)) (Sub.cons rfl (Sub.nil _))
 ·
  by_cases c11 : t3 = true
  ·
   have h12:=ite_true c11 h8
   refine DL.pure (v:=a1_v) rfl (Wn.yes c11 rfl rfl rfl rfl) rfl rfl rfl (p_move rfl rfl) ?_
   obtain ⟨t13,h14,h15⟩:=bind_some h12
   refine DL.quiet (v:=.bool t13) rfl (Wn.yes c11 rfl rfl rfl rfl) rfl rfl rfl (f_callR rfl rfl (args_val (vs:=[a1_v]) rfl) (fun w => enter36 _ w) (fun w hc => terms_may.val h14 (M:=M) w (hE.ext hc) hr_a1)) ?_
   refine DL.pu 10 (.bool t13) rfl (p_pick_t c11 rfl rfl rfl) ?_
   obtain rfl:=Option.some.inj h15
   exact DL.weak J10 (Sub.cons rfl (Sub.cons rfl (Sub.cons rfl (Sub.nil _))))
  ·
   replace c11:=Bool.eq_false_iff.mpr c11
   have h16:=ite_false c11 h8
   refine DL.not (i:=3) rfl (Wn.no c11 rfl rfl rfl rfl) rfl rfl ?_
   refine DL.not (i:=4) rfl (Wn.no c11 rfl rfl rfl rfl) rfl rfl ?_
   refine DL.pu 10 (.bool false) rfl (p_pick_f c11 rfl rfl rfl) ?_
   obtain rfl:=Option.some.inj h16
   exact DL.weak J10 (Sub.cons rfl (Sub.cons rfl (Sub.cons rfl (Sub.nil _))))
theorem terms_Can.val {a0 : Tm} {a1 : List Tm} {a0_2 : Value} {a1_v : Value} {r : Bool} (h : terms_Can.f a0 a1 = some r) {M : Mem} (w : World) (hM : Ext M (heapOf w)) (hG : Glob M) (hr_a0_2 : RowS ShTm M a0_2 (Tree.kids a0)) (hr_a1 : RowS ShTm M a1_v a1) : Calls Tryd.prog 16 #[.agg (Tm.ce a0 a0_2),a1_v] w fun e w' => e = .returned (.bool r) ∧ Below w.heap.size w w' :=
 calls_value (terms_Can.ok h w hM hG hr_a0_2 hr_a1)

/-! ### escutcheon/escutcheonlaw29.known: function 11 -/
noncomputable def B11 : Code:=bodyOf Tryd.f11
def law29_known.f : Option (Bool):=(law29_term.f [115,101,97,108,40,115,49,44,115,50,41]).bind fun t1 => (law29_term.f [115,49]).bind fun t5 => (law29_term.f [112,117,98,108,105,99,40,115,49,41]).bind fun t12 => (law29_term.f [115,50]).bind fun t16 => (law29_term.f [115,50]).bind fun t23 => (terms_Can.f t23 [t1,t5]).bind fun t27 => (if t27 = true then ((law29_term.f [109,97,99,40,115,50,44,100,48,41]).bind fun t37 => (terms_Can.f t37 [t1,t5]).bind fun t41 => some t41) else (some false)).bind fun q31 => (if q31 = true then ((law29_term.f [115,51]).bind fun t52 => (terms_Can.f t52 [t1,t5]).bind fun t56 => some (!t56)) else (some false)).bind fun q46 => (if q46 = true then ((law29_term.f [115,104,97,114,101,100,40,115,49,44,115,50,41]).bind fun t67 => (terms_Can.f t67 [t12,t16]).bind fun t71 => some t71) else (some false)).bind fun q61 => (if q61 = true then ((law29_term.f [115,104,97,114,101,100,40,115,50,44,115,49,41]).bind fun t82 => (terms_Can.f t82 [t12,t16]).bind fun t86 => some t86) else (some false)).bind fun q76 => (if q76 = true then ((law29_term.f [115,49]).bind fun t97 => (terms_Can.f t97 [t12,t16]).bind fun t101 => some (!t101)) else (some false)).bind fun q91 => some q91
set_option maxRecDepth 20000 in
theorem law29_known.ok {r : Bool} (h : law29_known.f = some r) {M : Mem} (w : World) (hM : Ext M (heapOf w)) (hG : Glob M) : Calls Tryd.prog 11 #[] w (Post (fun u => u = .bool r) w):=by
 unfold law29_known.f at h
 have hE:=Env.start hM
 refine calls_of_TT (N:=39) (S:=[]) (c:=B11) Tryd.func11 rfl rfl rfl (by simp) ?_
 show TT _ _ _ _ _ _ [.code (sub [] B11)] _ _
 refine TT.seq (x:=sub [0] B11) (y:=sub [1] B11) ?_
 refine TT.rg [0] [kp] rfl rfl ?_
 refine DL.pu 0 (.bool false) rfl (p_assign rfl rfl) ?_
 refine DL.nil ?_
 refine TT.seq (x:=sub [1,0] B11) (y:=sub [1,1] B11) ?_
 refine TT.rg [0,1,2,3] [kk,kk,(.alloc,none),kp] rfl rfl ?_
 obtain ⟨t1,h2,h3⟩:=bind_some h
 refine DL.callF (G:=Value) (u:=fun g => .agg (Tm.ce t1 g)) (Q:=fun g M_ => (RowS ShTm M_ g (Tree.kids t1))) (A:=[]) (J:=[]) (fun J4 => (J4)) (Nat.le_refl _) hE.nil (List.append_nil _).symm (fun _ => rfl) (by simp) (i:=0) rfl (Wn.none rfl) rfl rfl rfl rfl rfl rfl (args_val (vs:=[str [115,101,97,108,40,115,49,44,115,50,41]]) rfl) (fun w => enter34 _ w) (fun w hc hI => law29_term.ok h2 (M:=M) w hI hG) ?_
 rintro t1_2 M4 J4 hE4 hx4 hr_t1_2
 show DL _ _ _ _ _ _ _ _ _ _ _ _ (J4)
 obtain ⟨t5,h6,h7⟩:=bind_some h3
 refine DL.callF (G:=Value) (u:=fun g => .agg (Tm.ce t5 g)) (Q:=fun g M_ => (RowS ShTm M_ g (Tree.kids t5))) (A:=[]) (J:=J4) (fun J8 => (J8)) (Nat.le_refl _) hE4 rfl (fun _ => rfl) (by simp) (i:=1) rfl (Wn.none rfl) rfl rfl rfl rfl rfl rfl (args_val (vs:=[str [115,49]]) rfl) (fun w => enter34 _ w) (fun w hc hI => law29_term.ok h6 (M:=M4) w hI (Glob.mono hG hx4)) ?_
 rintro t5_2 M8 J8 hE8 hx8 hr_t5_2
 show DL _ _ _ _ _ _ _ _ _ _ _ _ (J8)
 refine DL.newS (M:=M8) (s:=ShTm) (zs:=[t1,t5]) (cells:=[.int .i64 (Tm.kind t1),.int .i64 (Tm.num t1),t1_2,.int .i64 (Tm.kind t5),.int .i64 (Tm.num t5),t5_2]) (n:=2) rfl (by decide) rfl (fun i x hx => by match i,hx with | 0,hx => cases hx; exact (Tm.cl (t:=t1) (RowS.mono hr_t1_2 hx8)) | 1,hx => cases hx; exact (Tm.cl (t:=t5) hr_t5_2) | k + 2,hx => simp at hx) (i:=2) rfl (Wn.none rfl) rfl rfl rfl (f_buildS (n:=2) (vs:=[(0,.agg (Tm.ce t1 t1_2)),(1,.agg (Tm.ce t5 t5_2))]) elem22 rfl rfl (by kernel_rfl) rfl (args_val2 rfl)) ?_
 intro s10_v s10_c ho_s10
 refine DL.pu 1 (s10_v) rfl (p_assign rfl rfl) ?_
 refine DL.nil ?_
 refine TT.settle (A:=[(Value.ownBlock s10_v,.cells s10_c 25 (0,0))]) (J:=J8) hE8 ?_
 intro I11 hE11 hxI11
 refine TT.seq (x:=sub [1,1,0] B11) (y:=sub [1,1,1] B11) ?_
 refine TT.rg [0,1,2,3] [kk,kk,(.alloc,none),kp] rfl rfl ?_
 obtain ⟨t12,h13,h14⟩:=bind_some h7
 refine DL.callF (G:=Value) (u:=fun g => .agg (Tm.ce t12 g)) (Q:=fun g M_ => (RowS ShTm M_ g (Tree.kids t12))) (A:=[(Value.ownBlock s10_v,.cells s10_c 25 (0,0))]) (J:=[]) (fun J15 => ((Value.ownBlock s10_v,.cells s10_c 25 (0,0)) :: J15)) (Nat.le_refl _) hE11.nil (List.append_nil _).symm (fun _ => rfl) (by simp) (i:=0) rfl (Wn.none rfl) rfl rfl rfl rfl rfl rfl (args_val (vs:=[str [112,117,98,108,105,99,40,115,49,41]]) rfl) (fun w => enter34 _ w) (fun w hc hI => law29_term.ok h13 (M:=M8) w hI (Glob.mono hG (hx4.trans hx8))) ?_
 rintro t12_2 M15 J15 hE15 hx15 hr_t12_2
 show DL _ _ _ _ _ _ _ _ _ _ _ _ ((Value.ownBlock s10_v,.cells s10_c 25 (0,0)) :: J15)
 obtain ⟨t16,h17,h18⟩:=bind_some h14
 refine DL.callF (G:=Value) (u:=fun g => .agg (Tm.ce t16 g)) (Q:=fun g M_ => (RowS ShTm M_ g (Tree.kids t16))) (A:=[(Value.ownBlock s10_v,.cells s10_c 25 (0,0))]) (J:=J15) (fun J19 => ((Value.ownBlock s10_v,.cells s10_c 25 (0,0)) :: J19)) (Nat.le_refl _) hE15 rfl (fun _ => rfl) (by simp) (i:=1) rfl (Wn.none rfl) rfl rfl rfl rfl rfl rfl (args_val (vs:=[str [115,50]]) rfl) (fun w => enter34 _ w) (fun w hc hI => law29_term.ok h17 (M:=M15) w hI (Glob.mono hG ((hx4.trans hx8).trans hx15))) ?_
 rintro t16_2 M19 J19 hE19 hx19 hr_t16_2
 show DL _ _ _ _ _ _ _ _ _ _ _ _ ((Value.ownBlock s10_v,.cells s10_c 25 (0,0)) :: J19)
 refine DL.newS (M:=M19) (s:=ShTm) (zs:=[t12,t16]) (cells:=[.int .i64 (Tm.kind t12),.int .i64 (Tm.num t12),t12_2,.int .i64 (Tm.kind t16),.int .i64 (Tm.num t16),t16_2]) (n:=2) rfl (by decide) rfl (fun i x hx => by match i,hx with | 0,hx => cases hx; exact (Tm.cl (t:=t12) (RowS.mono hr_t12_2 hx19)) | 1,hx => cases hx; exact (Tm.cl (t:=t16) hr_t16_2) | k + 2,hx => simp at hx) (i:=2) rfl (Wn.none rfl) rfl rfl rfl (f_buildS (n:=2) (vs:=[(0,.agg (Tm.ce t12 t12_2)),(1,.agg (Tm.ce t16 t16_2))]) elem22 rfl rfl (by kernel_rfl) rfl (args_val2 rfl)) ?_
 intro s21_v s21_c ho_s21
 refine DL.pu 2 (s21_v) rfl (p_assign rfl rfl) ?_
 refine DL.nil ?_
 refine TT.settle (A:=[(Value.ownBlock s21_v,.cells s21_c 25 (0,0)),(Value.ownBlock s10_v,.cells s10_c 25 (0,0))]) (J:=J19) hE19 ?_
 intro I22 hE22 hxI22
 refine TT.seq (x:=sub [1,1,1,0] B11) (y:=sub [1,1,1,1] B11) ?_
 refine TT.rg [0,1,2,3,4,5,6,7,8,9,10,11,12,13,14,15,16,17,18,19,20,21,22,23,24,25,26,27,28,29,30] [kk,kp,kq,kp,kk,kp,kq,kp,kp,kk,kp,kq,kp,kp,kp,kk,kp,kq,kp,kp,kk,kp,kq,kp,kp,kk,kp,kq,kp,kp,kp] rfl rfl ?_
 obtain ⟨t23,h24,h25⟩:=bind_some h18
 refine DL.callF (G:=Value) (u:=fun g => .agg (Tm.ce t23 g)) (Q:=fun g M_ => (RowS ShTm M_ g (Tree.kids t23))) (A:=[(Value.ownBlock s21_v,.cells s21_c 25 (0,0)),(Value.ownBlock s10_v,.cells s10_c 25 (0,0))]) (J:=[]) (fun J26 => ((Value.ownBlock s21_v,.cells s21_c 25 (0,0)) :: (Value.ownBlock s10_v,.cells s10_c 25 (0,0)) :: J26)) (Nat.le_refl _) hE22.nil (List.append_nil _).symm (fun _ => rfl) (by simp) (i:=0) rfl (Wn.none rfl) rfl rfl rfl rfl rfl rfl (args_val (vs:=[str [115,50]]) rfl) (fun w => enter34 _ w) (fun w hc hI => law29_term.ok h24 (M:=M19) w hI (Glob.mono hG (((hx4.trans hx8).trans hx15).trans hx19))) ?_
 rintro t23_2 M26 J26 hE26 hx26 hr_t23_2
 show DL _ _ _ _ _ _ _ _ _ _ _ _ ((Value.ownBlock s21_v,.cells s21_c 25 (0,0)) :: (Value.ownBlock s10_v,.cells s10_c 25 (0,0)) :: J26)
 refine DL.mv 10 (s10_v) rfl rfl rfl ?_
 obtain ⟨t27,h28,h29⟩:=bind_some h25
 refine DL.qu 11 (.bool t27) rfl (f_callR rfl rfl (args_val (vs:=[.agg (Tm.ce t23 t23_2),s10_v]) rfl) (fun w => enter16 _ w) (fun w hc => terms_Can.val h28 (M:=heapOf w) w (Ext.refl _) (Glob.mono (Glob.mono hG ((((hx4.trans hx8).trans hx15).trans hx19).trans hx26)) (hE26.extJ (A:=[(Value.ownBlock s21_v,.cells s21_c 25 (0,0)),(Value.ownBlock s10_v,.cells s10_c 25 (0,0))]) hc rfl)) (RowS.mono hr_t23_2 (hE26.extJ (A:=[(Value.ownBlock s21_v,.cells s21_c 25 (0,0)),(Value.ownBlock s10_v,.cells s10_c 25 (0,0))]) hc rfl)) (OwnS.row (OwnS.mono ho_s10 ((hx15.trans hx19).trans hx26)) (hE26.extJ (A:=[(Value.ownBlock s21_v,.cells s21_c 25 (0,0)),(Value.ownBlock s10_v,.cells s10_c 25 (0,0))]) hc rfl) hc (i:=1) rfl))) ?_
 refine DL.mv 12 (.bool t27) rfl rfl rfl ?_
 obtain ⟨q31,h32,h33⟩:=bind_some h29
 refine DL.cutJ [(Value.ownBlock s21_v,.cells s21_c 25 (0,0)),(Value.ownBlock s10_v,.cells s10_c 25 (0,0))] M26 hE26 [(1,s10_v),(2,s21_v),(16,.bool q31)] [8,9,10,11,12,13,14,15,16,17,18,19,20,21,22,23,24,25,26,27,28,29,30] ?_ (fun J34 => ?_)
 ·
  intro M35 J35 hE35 hx35
  show DL _ _ _ _ _ _ _ _ _ _ _ _ ((Value.ownBlock s21_v,.cells s21_c 25 (0,0)) :: (Value.ownBlock s10_v,.cells s10_c 25 (0,0)) :: J35)
  refine DL.mv 17 (.bool q31) rfl rfl rfl ?_
  obtain ⟨q46,h47,h48⟩:=bind_some h33
  refine DL.cutJ [(Value.ownBlock s21_v,.cells s21_c 25 (0,0)),(Value.ownBlock s10_v,.cells s10_c 25 (0,0))] M35 hE35 [(2,s21_v),(22,.bool q46)] [14,15,16,17,18,19,20,21,22,23,24,25,26,27,28,29,30] ?_ (fun J49 => ?_)
  ·
   intro M50 J50 hE50 hx50
   show DL _ _ _ _ _ _ _ _ _ _ _ _ ((Value.ownBlock s21_v,.cells s21_c 25 (0,0)) :: (Value.ownBlock s10_v,.cells s10_c 25 (0,0)) :: J50)
   refine DL.mv 23 (.bool q46) rfl rfl rfl ?_
   obtain ⟨q61,h62,h63⟩:=bind_some h48
   refine DL.cutJ [(Value.ownBlock s21_v,.cells s21_c 25 (0,0)),(Value.ownBlock s10_v,.cells s10_c 25 (0,0))] M50 hE50 [(2,s21_v),(27,.bool q61)] [19,20,21,22,23,24,25,26,27,28,29,30] ?_ (fun J64 => ?_)
   ·
    intro M65 J65 hE65 hx65
    show DL _ _ _ _ _ _ _ _ _ _ _ _ ((Value.ownBlock s21_v,.cells s21_c 25 (0,0)) :: (Value.ownBlock s10_v,.cells s10_c 25 (0,0)) :: J65)
    refine DL.mv 28 (.bool q61) rfl rfl rfl ?_
    obtain ⟨q76,h77,h78⟩:=bind_some h63
    refine DL.cutJ [(Value.ownBlock s21_v,.cells s21_c 25 (0,0)),(Value.ownBlock s10_v,.cells s10_c 25 (0,0))] M65 hE65 [(2,s21_v),(32,.bool q76)] [24,25,26,27,28,29,30] ?_ (fun J79 => ?_)
    ·
     intro M80 J80 hE80 hx80
     show DL _ _ _ _ _ _ _ _ _ _ _ _ ((Value.ownBlock s21_v,.cells s21_c 25 (0,0)) :: (Value.ownBlock s10_v,.cells s10_c 25 (0,0)) :: J80)
     refine DL.mv 33 (.bool q76) rfl rfl rfl ?_
     obtain ⟨q91,h92,h93⟩:=bind_some h78
     refine DL.cutJ [(Value.ownBlock s21_v,.cells s21_c 25 (0,0)),(Value.ownBlock s10_v,.cells s10_c 25 (0,0))] M80 hE80 [(38,.bool q91)] [30] ?_ (fun J94 => ?_)
     ·
      intro M95 J95 hE95 hx95
      show DL _ _ _ _ _ _ _ _ _ _ _ _ ((Value.ownBlock s21_v,.cells s21_c 25 (0,0)) :: (Value.ownBlock s10_v,.cells s10_c 25 (0,0)) :: J95)
      refine DL.pu 0 (.bool q91) rfl (p_assign rfl rfl) ?_
      refine DL.nil ?_
      refine TT.settle (A:=[(Value.ownBlock s21_v,.cells s21_c 25 (0,0)),(Value.ownBlock s10_v,.cells s10_c 25 (0,0))]) (J:=J95) hE95 ?_
      intro I105 hE105 hxI105
      obtain rfl:=Option.some.inj h93
      exact retnE (rs:=[.tmp 0]) (vs:=[.bool q91]) hE105.base Tryd.func11 rfl rfl rfl (res_cons (ResV.tmp rfl) res_nil) rfl
     ·
      by_cases c90 : q76 = true
      ·
       have h96:=ite_true c90 h92
       obtain ⟨t97,h98,h99⟩:=bind_some h96
       refine DL.callF (G:=Value) (u:=fun g => .agg (Tm.ce t97 g)) (Q:=fun g M_ => (RowS ShTm M_ g (Tree.kids t97))) (A:=[(Value.ownBlock s21_v,.cells s21_c 25 (0,0)),(Value.ownBlock s10_v,.cells s10_c 25 (0,0))]) (J:=J80) (fun J100 => ((Value.ownBlock s21_v,.cells s21_c 25 (0,0)) :: (Value.ownBlock s10_v,.cells s10_c 25 (0,0)) :: J100)) (Nat.le_refl _) hE80 rfl (fun _ => rfl) (by simp) (i:=25) rfl (Wn.yes c90 rfl rfl rfl rfl) rfl rfl rfl rfl rfl rfl (args_val (vs:=[str [115,49]]) rfl) (fun w => enter34 _ w) (fun w hc hI => law29_term.ok h98 (M:=M80) w hI (Glob.mono hG ((((((((hx4.trans hx8).trans hx15).trans hx19).trans hx26).trans hx35).trans hx50).trans hx65).trans hx80))) ?_
       rintro t97_2 M100 J100 hE100 hx100 hr_t97_2
       show DL _ _ _ _ _ _ _ _ _ _ _ _ ((Value.ownBlock s21_v,.cells s21_c 25 (0,0)) :: (Value.ownBlock s10_v,.cells s10_c 25 (0,0)) :: J100)
       refine DL.pure (v:=s21_v) rfl (Wn.yes c90 rfl rfl rfl rfl) rfl rfl rfl (p_move rfl rfl) ?_
       obtain ⟨t101,h102,h103⟩:=bind_some h99
       refine DL.quiet (v:=.bool t101) rfl (Wn.yes c90 rfl rfl rfl rfl) rfl rfl rfl (f_callR rfl rfl (args_val (vs:=[.agg (Tm.ce t97 t97_2),s21_v]) rfl) (fun w => enter16 _ w) (fun w hc => terms_Can.val h102 (M:=heapOf w) w (Ext.refl _) (Glob.mono (Glob.mono hG (((((((((hx4.trans hx8).trans hx15).trans hx19).trans hx26).trans hx35).trans hx50).trans hx65).trans hx80).trans hx100)) (hE100.extJ (A:=[(Value.ownBlock s21_v,.cells s21_c 25 (0,0)),(Value.ownBlock s10_v,.cells s10_c 25 (0,0))]) hc rfl)) (RowS.mono hr_t97_2 (hE100.extJ (A:=[(Value.ownBlock s21_v,.cells s21_c 25 (0,0)),(Value.ownBlock s10_v,.cells s10_c 25 (0,0))]) hc rfl)) (OwnS.row (OwnS.mono ho_s21 (((((hx26.trans hx35).trans hx50).trans hx65).trans hx80).trans hx100)) (hE100.extJ (A:=[(Value.ownBlock s21_v,.cells s21_c 25 (0,0)),(Value.ownBlock s10_v,.cells s10_c 25 (0,0))]) hc rfl) hc (i:=0) rfl))) ?_
       refine DL.pure (v:=.bool (!t101)) rfl (Wn.yes c90 rfl rfl rfl rfl) rfl rfl rfl (p_not rfl rfl) ?_
       refine DL.pu 38 (.bool (!t101)) rfl (p_pick_t c90 rfl rfl rfl) ?_
       obtain rfl:=Option.some.inj h103
       exact DL.weak (J94 _ _ hE100 hx100) (Sub.cons rfl (Sub.nil _))
      ·
       replace c90:=Bool.eq_false_iff.mpr c90
       have h104:=ite_false c90 h92
       refine DL.not (i:=25) rfl (Wn.no c90 rfl rfl rfl rfl) rfl rfl ?_
       refine DL.not (i:=26) rfl (Wn.no c90 rfl rfl rfl rfl) rfl rfl ?_
       refine DL.not (i:=27) rfl (Wn.no c90 rfl rfl rfl rfl) rfl rfl ?_
       refine DL.not (i:=28) rfl (Wn.no c90 rfl rfl rfl rfl) rfl rfl ?_
       refine DL.pu 38 (.bool false) rfl (p_pick_f c90 rfl rfl rfl) ?_
       obtain rfl:=Option.some.inj h104
       exact DL.weak (J94 _ _ hE80 (Ext.refl _)) (Sub.cons rfl (Sub.nil _))
    ·
     by_cases c75 : q61 = true
     ·
      have h81:=ite_true c75 h77
      obtain ⟨t82,h83,h84⟩:=bind_some h81
      refine DL.callF (G:=Value) (u:=fun g => .agg (Tm.ce t82 g)) (Q:=fun g M_ => (RowS ShTm M_ g (Tree.kids t82))) (A:=[(Value.ownBlock s21_v,.cells s21_c 25 (0,0)),(Value.ownBlock s10_v,.cells s10_c 25 (0,0))]) (J:=J65) (fun J85 => ((Value.ownBlock s21_v,.cells s21_c 25 (0,0)) :: (Value.ownBlock s10_v,.cells s10_c 25 (0,0)) :: J85)) (Nat.le_refl _) hE65 rfl (fun _ => rfl) (by simp) (i:=20) rfl (Wn.yes c75 rfl rfl rfl rfl) rfl rfl rfl rfl rfl rfl (args_val (vs:=[str [115,104,97,114,101,100,40,115,50,44,115,49,41]]) rfl) (fun w => enter34 _ w) (fun w hc hI => law29_term.ok h83 (M:=M65) w hI (Glob.mono hG (((((((hx4.trans hx8).trans hx15).trans hx19).trans hx26).trans hx35).trans hx50).trans hx65))) ?_
      rintro t82_2 M85 J85 hE85 hx85 hr_t82_2
      show DL _ _ _ _ _ _ _ _ _ _ _ _ ((Value.ownBlock s21_v,.cells s21_c 25 (0,0)) :: (Value.ownBlock s10_v,.cells s10_c 25 (0,0)) :: J85)
      refine DL.pure (v:=s21_v) rfl (Wn.yes c75 rfl rfl rfl rfl) rfl rfl rfl (p_move rfl rfl) ?_
      obtain ⟨t86,h87,h88⟩:=bind_some h84
      refine DL.quiet (v:=.bool t86) rfl (Wn.yes c75 rfl rfl rfl rfl) rfl rfl rfl (f_callR rfl rfl (args_val (vs:=[.agg (Tm.ce t82 t82_2),s21_v]) rfl) (fun w => enter16 _ w) (fun w hc => terms_Can.val h87 (M:=heapOf w) w (Ext.refl _) (Glob.mono (Glob.mono hG ((((((((hx4.trans hx8).trans hx15).trans hx19).trans hx26).trans hx35).trans hx50).trans hx65).trans hx85)) (hE85.extJ (A:=[(Value.ownBlock s21_v,.cells s21_c 25 (0,0)),(Value.ownBlock s10_v,.cells s10_c 25 (0,0))]) hc rfl)) (RowS.mono hr_t82_2 (hE85.extJ (A:=[(Value.ownBlock s21_v,.cells s21_c 25 (0,0)),(Value.ownBlock s10_v,.cells s10_c 25 (0,0))]) hc rfl)) (OwnS.row (OwnS.mono ho_s21 ((((hx26.trans hx35).trans hx50).trans hx65).trans hx85)) (hE85.extJ (A:=[(Value.ownBlock s21_v,.cells s21_c 25 (0,0)),(Value.ownBlock s10_v,.cells s10_c 25 (0,0))]) hc rfl) hc (i:=0) rfl))) ?_
      refine DL.pu 32 (.bool t86) rfl (p_pick_t c75 rfl rfl rfl) ?_
      obtain rfl:=Option.some.inj h88
      exact DL.weak (J79 _ _ hE85 hx85) (Sub.cons rfl (Sub.cons rfl (Sub.nil _)))
     ·
      replace c75:=Bool.eq_false_iff.mpr c75
      have h89:=ite_false c75 h77
      refine DL.not (i:=20) rfl (Wn.no c75 rfl rfl rfl rfl) rfl rfl ?_
      refine DL.not (i:=21) rfl (Wn.no c75 rfl rfl rfl rfl) rfl rfl ?_
      refine DL.not (i:=22) rfl (Wn.no c75 rfl rfl rfl rfl) rfl rfl ?_
      refine DL.pu 32 (.bool false) rfl (p_pick_f c75 rfl rfl rfl) ?_
      obtain rfl:=Option.some.inj h89
      exact DL.weak (J79 _ _ hE65 (Ext.refl _)) (Sub.cons rfl (Sub.cons rfl (Sub.nil _)))
   ·
    by_cases c60 : q46 = true
    ·
     have h66:=ite_true c60 h62
     obtain ⟨t67,h68,h69⟩:=bind_some h66
     refine DL.callF (G:=Value) (u:=fun g => .agg (Tm.ce t67 g)) (Q:=fun g M_ => (RowS ShTm M_ g (Tree.kids t67))) (A:=[(Value.ownBlock s21_v,.cells s21_c 25 (0,0)),(Value.ownBlock s10_v,.cells s10_c 25 (0,0))]) (J:=J50) (fun J70 => ((Value.ownBlock s21_v,.cells s21_c 25 (0,0)) :: (Value.ownBlock s10_v,.cells s10_c 25 (0,0)) :: J70)) (Nat.le_refl _) hE50 rfl (fun _ => rfl) (by simp) (i:=15) rfl (Wn.yes c60 rfl rfl rfl rfl) rfl rfl rfl rfl rfl rfl (args_val (vs:=[str [115,104,97,114,101,100,40,115,49,44,115,50,41]]) rfl) (fun w => enter34 _ w) (fun w hc hI => law29_term.ok h68 (M:=M50) w hI (Glob.mono hG ((((((hx4.trans hx8).trans hx15).trans hx19).trans hx26).trans hx35).trans hx50))) ?_
     rintro t67_2 M70 J70 hE70 hx70 hr_t67_2
     show DL _ _ _ _ _ _ _ _ _ _ _ _ ((Value.ownBlock s21_v,.cells s21_c 25 (0,0)) :: (Value.ownBlock s10_v,.cells s10_c 25 (0,0)) :: J70)
     refine DL.pure (v:=s21_v) rfl (Wn.yes c60 rfl rfl rfl rfl) rfl rfl rfl (p_move rfl rfl) ?_
     obtain ⟨t71,h72,h73⟩:=bind_some h69
     refine DL.quiet (v:=.bool t71) rfl (Wn.yes c60 rfl rfl rfl rfl) rfl rfl rfl (f_callR rfl rfl (args_val (vs:=[.agg (Tm.ce t67 t67_2),s21_v]) rfl) (fun w => enter16 _ w) (fun w hc => terms_Can.val h72 (M:=heapOf w) w (Ext.refl _) (Glob.mono (Glob.mono hG (((((((hx4.trans hx8).trans hx15).trans hx19).trans hx26).trans hx35).trans hx50).trans hx70)) (hE70.extJ (A:=[(Value.ownBlock s21_v,.cells s21_c 25 (0,0)),(Value.ownBlock s10_v,.cells s10_c 25 (0,0))]) hc rfl)) (RowS.mono hr_t67_2 (hE70.extJ (A:=[(Value.ownBlock s21_v,.cells s21_c 25 (0,0)),(Value.ownBlock s10_v,.cells s10_c 25 (0,0))]) hc rfl)) (OwnS.row (OwnS.mono ho_s21 (((hx26.trans hx35).trans hx50).trans hx70)) (hE70.extJ (A:=[(Value.ownBlock s21_v,.cells s21_c 25 (0,0)),(Value.ownBlock s10_v,.cells s10_c 25 (0,0))]) hc rfl) hc (i:=0) rfl))) ?_
     refine DL.pu 27 (.bool t71) rfl (p_pick_t c60 rfl rfl rfl) ?_
     obtain rfl:=Option.some.inj h73
     exact DL.weak (J64 _ _ hE70 hx70) (Sub.cons rfl (Sub.cons rfl (Sub.nil _)))
    ·
     replace c60:=Bool.eq_false_iff.mpr c60
     have h74:=ite_false c60 h62
     refine DL.not (i:=15) rfl (Wn.no c60 rfl rfl rfl rfl) rfl rfl ?_
     refine DL.not (i:=16) rfl (Wn.no c60 rfl rfl rfl rfl) rfl rfl ?_
     refine DL.not (i:=17) rfl (Wn.no c60 rfl rfl rfl rfl) rfl rfl ?_
     refine DL.pu 27 (.bool false) rfl (p_pick_f c60 rfl rfl rfl) ?_
     obtain rfl:=Option.some.inj h74
     exact DL.weak (J64 _ _ hE50 (Ext.refl _)) (Sub.cons rfl (Sub.cons rfl (Sub.nil _)))
  ·
   by_cases c45 : q31 = true
   ·
    have h51:=ite_true c45 h47
    obtain ⟨t52,h53,h54⟩:=bind_some h51
    refine DL.callF (G:=Value) (u:=fun g => .agg (Tm.ce t52 g)) (Q:=fun g M_ => (RowS ShTm M_ g (Tree.kids t52))) (A:=[(Value.ownBlock s21_v,.cells s21_c 25 (0,0)),(Value.ownBlock s10_v,.cells s10_c 25 (0,0))]) (J:=J35) (fun J55 => ((Value.ownBlock s21_v,.cells s21_c 25 (0,0)) :: (Value.ownBlock s10_v,.cells s10_c 25 (0,0)) :: J55)) (Nat.le_refl _) hE35 rfl (fun _ => rfl) (by simp) (i:=9) rfl (Wn.yes c45 rfl rfl rfl rfl) rfl rfl rfl rfl rfl rfl (args_val (vs:=[str [115,51]]) rfl) (fun w => enter34 _ w) (fun w hc hI => law29_term.ok h53 (M:=M35) w hI (Glob.mono hG (((((hx4.trans hx8).trans hx15).trans hx19).trans hx26).trans hx35))) ?_
    rintro t52_2 M55 J55 hE55 hx55 hr_t52_2
    show DL _ _ _ _ _ _ _ _ _ _ _ _ ((Value.ownBlock s21_v,.cells s21_c 25 (0,0)) :: (Value.ownBlock s10_v,.cells s10_c 25 (0,0)) :: J55)
    refine DL.pure (v:=s10_v) rfl (Wn.yes c45 rfl rfl rfl rfl) rfl rfl rfl (p_move rfl rfl) ?_
    obtain ⟨t56,h57,h58⟩:=bind_some h54
    refine DL.quiet (v:=.bool t56) rfl (Wn.yes c45 rfl rfl rfl rfl) rfl rfl rfl (f_callR rfl rfl (args_val (vs:=[.agg (Tm.ce t52 t52_2),s10_v]) rfl) (fun w => enter16 _ w) (fun w hc => terms_Can.val h57 (M:=heapOf w) w (Ext.refl _) (Glob.mono (Glob.mono hG ((((((hx4.trans hx8).trans hx15).trans hx19).trans hx26).trans hx35).trans hx55)) (hE55.extJ (A:=[(Value.ownBlock s21_v,.cells s21_c 25 (0,0)),(Value.ownBlock s10_v,.cells s10_c 25 (0,0))]) hc rfl)) (RowS.mono hr_t52_2 (hE55.extJ (A:=[(Value.ownBlock s21_v,.cells s21_c 25 (0,0)),(Value.ownBlock s10_v,.cells s10_c 25 (0,0))]) hc rfl)) (OwnS.row (OwnS.mono ho_s10 ((((hx15.trans hx19).trans hx26).trans hx35).trans hx55)) (hE55.extJ (A:=[(Value.ownBlock s21_v,.cells s21_c 25 (0,0)),(Value.ownBlock s10_v,.cells s10_c 25 (0,0))]) hc rfl) hc (i:=1) rfl))) ?_
    refine DL.pure (v:=.bool (!t56)) rfl (Wn.yes c45 rfl rfl rfl rfl) rfl rfl rfl (p_not rfl rfl) ?_
    refine DL.pu 22 (.bool (!t56)) rfl (p_pick_t c45 rfl rfl rfl) ?_
    obtain rfl:=Option.some.inj h58
    exact DL.weak (J49 _ _ hE55 hx55) (Sub.cons rfl (Sub.cons rfl (Sub.nil _)))
   ·
    replace c45:=Bool.eq_false_iff.mpr c45
    have h59:=ite_false c45 h47
    refine DL.not (i:=9) rfl (Wn.no c45 rfl rfl rfl rfl) rfl rfl ?_
    refine DL.not (i:=10) rfl (Wn.no c45 rfl rfl rfl rfl) rfl rfl ?_
    refine DL.not (i:=11) rfl (Wn.no c45 rfl rfl rfl rfl) rfl rfl ?_
    refine DL.not (i:=12) rfl (Wn.no c45 rfl rfl rfl rfl) rfl rfl ?_
    refine DL.pu 22 (.bool false) rfl (p_pick_f c45 rfl rfl rfl) ?_
    obtain rfl:=Option.some.inj h59
    exact DL.weak (J49 _ _ hE35 (Ext.refl _)) (Sub.cons rfl (Sub.cons rfl (Sub.nil _)))
 ·
  by_cases c30 : t27 = true
  ·
   have h36:=ite_true c30 h32
   obtain ⟨t37,h38,h39⟩:=bind_some h36
   refine DL.callF (G:=Value) (u:=fun g => .agg (Tm.ce t37 g)) (Q:=fun g M_ => (RowS ShTm M_ g (Tree.kids t37))) (A:=[(Value.ownBlock s21_v,.cells s21_c 25 (0,0)),(Value.ownBlock s10_v,.cells s10_c 25 (0,0))]) (J:=J26) (fun J40 => ((Value.ownBlock s21_v,.cells s21_c 25 (0,0)) :: (Value.ownBlock s10_v,.cells s10_c 25 (0,0)) :: J40)) (Nat.le_refl _) hE26 rfl (fun _ => rfl) (by simp) (i:=4) rfl (Wn.yes c30 rfl rfl rfl rfl) rfl rfl rfl rfl rfl rfl (args_val (vs:=[str [109,97,99,40,115,50,44,100,48,41]]) rfl) (fun w => enter34 _ w) (fun w hc hI => law29_term.ok h38 (M:=M26) w hI (Glob.mono hG ((((hx4.trans hx8).trans hx15).trans hx19).trans hx26))) ?_
   rintro t37_2 M40 J40 hE40 hx40 hr_t37_2
   show DL _ _ _ _ _ _ _ _ _ _ _ _ ((Value.ownBlock s21_v,.cells s21_c 25 (0,0)) :: (Value.ownBlock s10_v,.cells s10_c 25 (0,0)) :: J40)
   refine DL.pure (v:=s10_v) rfl (Wn.yes c30 rfl rfl rfl rfl) rfl rfl rfl (p_move rfl rfl) ?_
   obtain ⟨t41,h42,h43⟩:=bind_some h39
   refine DL.quiet (v:=.bool t41) rfl (Wn.yes c30 rfl rfl rfl rfl) rfl rfl rfl (f_callR rfl rfl (args_val (vs:=[.agg (Tm.ce t37 t37_2),s10_v]) rfl) (fun w => enter16 _ w) (fun w hc => terms_Can.val h42 (M:=heapOf w) w (Ext.refl _) (Glob.mono (Glob.mono hG (((((hx4.trans hx8).trans hx15).trans hx19).trans hx26).trans hx40)) (hE40.extJ (A:=[(Value.ownBlock s21_v,.cells s21_c 25 (0,0)),(Value.ownBlock s10_v,.cells s10_c 25 (0,0))]) hc rfl)) (RowS.mono hr_t37_2 (hE40.extJ (A:=[(Value.ownBlock s21_v,.cells s21_c 25 (0,0)),(Value.ownBlock s10_v,.cells s10_c 25 (0,0))]) hc rfl)) (OwnS.row (OwnS.mono ho_s10 (((hx15.trans hx19).trans hx26).trans hx40)) (hE40.extJ (A:=[(Value.ownBlock s21_v,.cells s21_c 25 (0,0)),(Value.ownBlock s10_v,.cells s10_c 25 (0,0))]) hc rfl) hc (i:=1) rfl))) ?_
   refine DL.pu 16 (.bool t41) rfl (p_pick_t c30 rfl rfl rfl) ?_
   obtain rfl:=Option.some.inj h43
   exact DL.weak (J34 _ _ hE40 hx40) (Sub.cons rfl (Sub.cons rfl (Sub.cons rfl (Sub.nil _))))
  ·
   replace c30:=Bool.eq_false_iff.mpr c30
   have h44:=ite_false c30 h32
   refine DL.not (i:=4) rfl (Wn.no c30 rfl rfl rfl rfl) rfl rfl ?_
   refine DL.not (i:=5) rfl (Wn.no c30 rfl rfl rfl rfl) rfl rfl ?_
   refine DL.not (i:=6) rfl (Wn.no c30 rfl rfl rfl rfl) rfl rfl ?_
   refine DL.pu 16 (.bool false) rfl (p_pick_f c30 rfl rfl rfl) ?_
   obtain rfl:=Option.some.inj h44
   exact DL.weak (J34 _ _ hE26 (Ext.refl _)) (Sub.cons rfl (Sub.cons rfl (Sub.cons rfl (Sub.nil _))))
theorem law29_known.val {r : Bool} (h : law29_known.f = some r) {M : Mem} (w : World) (hM : Ext M (heapOf w)) (hG : Glob M) : Calls Tryd.prog 11 #[] w fun e w' => e = .returned (.bool r) ∧ Below w.heap.size w w' :=
 calls_value (law29_known.ok h w hM hG)

/-! ### escutcheon/escutcheonlaw29.TermsMakes$1: function 21 -/
noncomputable def B21 : Code:=bodyOf Tryd.f21
def law29_makes.f (a0 : Int) (a1 : Tm) (a2 : Tm) (c0 : List Tm) : Option (Bool):=(terms_Can.f (Tm.mk a0 0 [a1,a2]) c0).bind fun t5 => some t5
set_option maxRecDepth 20000 in
theorem law29_makes.ok {a0 : Int} {a1 : Tm} {a2 : Tm} {c0 : List Tm} {a1_2 : Value} {a2_2 : Value} {c0_v : Value} {c0_b : Nat} {r : Bool} (h : law29_makes.f a0 a1 a2 c0 = some r) {M : Mem} (w : World) (hM : Ext M (heapOf w)) (hG : Glob M) (hr_a1_2 : RowS ShTm M a1_2 (Tree.kids a1)) (hr_a2_2 : RowS ShTm M a2_2 (Tree.kids a2)) (hr_c0 : RowS ShTm M c0_v c0) (hb_c0 : M c0_b = some (.cells #[c0_v] 22 (0,0))) : Calls Tryd.prog 21 #[.int .i64 a0,.agg (Tm.ce a1 a1_2),.agg (Tm.ce a2 a2_2),ptr c0_b 0] w (Post (fun u => u = .bool r) w):=by
 unfold law29_makes.f at h
 have hE:=Env.start hM
 refine calls_of_TT (N:=15) (S:=[(0,.int .i64 a0),(1,.agg (Tm.ce a1 a1_2)),(2,.agg (Tm.ce a2 a2_2)),(3,ptr c0_b 0)]) (c:=B21) Tryd.func21 rfl rfl rfl (by simp) ?_
 show TT _ _ _ _ _ _ [.code (sub [] B21)] _ _
 refine TT.seq (x:=sub [0] B21) (y:=sub [1] B21) ?_
 refine TT.rg [0,1,2] [(.alloc,none),(.alloc,none),kp] rfl rfl ?_
 refine DL.new (ob:=.cells ((Tm.ce a1 a1_2)) 25) (mk:=fun b => ptr b 0) (i:=0) rfl (Wn.none rfl) rfl rfl rfl (f_box (v:=.agg (Tm.ce a1 a1_2)) rfl rfl) ?_
 intro b1 hb1
 refine DL.new (ob:=.cells ((Tm.ce a2 a2_2)) 25) (mk:=fun b => ptr b 0) (i:=1) rfl (Wn.none rfl) rfl rfl rfl (f_box (v:=.agg (Tm.ce a2 a2_2)) rfl rfl) ?_
 intro b2 hb2
 refine DL.pu 7 (.bool false) rfl (p_assign rfl rfl) ?_
 refine DL.nil ?_
 refine TT.seq (x:=sub [1,0] B21) (y:=sub [1,1] B21) ?_
 refine TT.rg [0,1,2,3,4,5,6,7] [kp,kq,kq,(.alloc,none),kp,kp,kq,kp] rfl rfl ?_
 refine DL.mv 8 (.int .i64 a0) rfl rfl rfl ?_
 refine DL.qu 9 (.agg (Tm.ce a1 a1_2)) rfl (f_loadA (j:=1) ty_a25 ty_s25 rfl rfl rfl rfl) ?_
 refine DL.qu 10 (.agg (Tm.ce a2 a2_2)) rfl (f_loadA (j:=0) ty_a25 ty_s25 rfl rfl rfl rfl) ?_
 refine DL.newS (M:=M) (s:=ShTm) (zs:=[a1,a2]) (cells:=[.int .i64 (Tm.kind a1),.int .i64 (Tm.num a1),a1_2,.int .i64 (Tm.kind a2),.int .i64 (Tm.num a2),a2_2]) (n:=2) rfl (by decide) rfl (fun i x hx => by match i,hx with | 0,hx => cases hx; exact (Tm.cl (t:=a1) hr_a1_2) | 1,hx => cases hx; exact (Tm.cl (t:=a2) hr_a2_2) | k + 2,hx => simp at hx) (i:=3) rfl (Wn.none rfl) rfl rfl rfl (f_buildS (n:=2) (vs:=[(0,.agg (Tm.ce a1 a1_2)),(1,.agg (Tm.ce a2 a2_2))]) elem22 rfl rfl (by kernel_rfl) rfl (args_val2 rfl)) ?_
 intro s4_v s4_c ho_s4
 refine DL.pu 12 (.agg #[.int .i64 a0,.int .i64 0,s4_v]) rfl (p_build (vs:=[(0,.int .i64 a0),(2,s4_v)]) (fun w => by obtain ⟨_,_,e_⟩:=OwnS.sl ho_s4; subst e_; kernel_rfl) rfl rfl) ?_
 refine DL.imm (v:=c0_v) rfl (Wn.none rfl) rfl rfl rfl (i_loadBox (hE.mi _ _ hb_c0) rfl ty_a22 rfl rfl) ?_
 obtain ⟨t5,h6,h7⟩:=bind_some h
 refine DL.qu 14 (.bool t5) rfl (f_callR rfl rfl (args_val (vs:=[.agg #[.int .i64 a0,.int .i64 0,s4_v],c0_v]) rfl) (fun w => enter16 _ w) (fun w hc => terms_Can.val h6 (M:=heapOf w) w (Ext.refl _) (Glob.mono hG (hE.ext hc)) (OwnS.row ho_s4 (hE.ext hc) hc (i:=0) rfl) (RowS.mono hr_c0 (hE.ext hc)))) ?_
 refine DL.pu 7 (.bool t5) rfl (p_assign rfl rfl) ?_
 refine DL.nil ?_
 obtain rfl:=Option.some.inj h7
 exact retnE (rs:=[.tmp 7]) (vs:=[.bool t5]) hE.base Tryd.func21 rfl rfl rfl (res_cons (ResV.tmp rfl) res_nil) rfl
theorem law29_makes.val {a0 : Int} {a1 : Tm} {a2 : Tm} {c0 : List Tm} {a1_2 : Value} {a2_2 : Value} {c0_v : Value} {c0_b : Nat} {r : Bool} (h : law29_makes.f a0 a1 a2 c0 = some r) {M : Mem} (w : World) (hM : Ext M (heapOf w)) (hG : Glob M) (hr_a1_2 : RowS ShTm M a1_2 (Tree.kids a1)) (hr_a2_2 : RowS ShTm M a2_2 (Tree.kids a2)) (hr_c0 : RowS ShTm M c0_v c0) (hb_c0 : M c0_b = some (.cells #[c0_v] 22 (0,0))) : Calls Tryd.prog 21 #[.int .i64 a0,.agg (Tm.ce a1 a1_2),.agg (Tm.ce a2 a2_2),ptr c0_b 0] w fun e w' => e = .returned (.bool r) ∧ Below w.heap.size w w' :=
 calls_value (law29_makes.ok h w hM hG hr_a1_2 hr_a2_2 hr_c0 hb_c0)

/-! ### escutcheon/escutcheonlaw29.TermsKeeps: function 4 -/
noncomputable def B4 : Code:=bodyOf Tryd.f4
def law29_TermsKeeps.L0 (a0 : List Tm) (a1 : Int) : Nat → Int → Option ((Unit) ⊕ (Bool))
 | 0,_ => none
 | k + 1,x6_30 => if (decide (x6_30 < (a0.length : Int))) = true then (req (0 ≤ x6_30) (req (x6_30 < (a0.length : Int)) (nm (a0.getD x6_30.toNat Tm.dflt) fun t108 => (law29_bare.f (Tm.fuel t108) t108 a1).bind fun t111 => if t111 = true then ((law29_known.f).bind fun t116 => some (.inr t116)) else (law29_TermsKeeps.L0 a0 a1 k (IntKind.i64.wrap (x6_30 + 1)))))) else (some (.inl ()))
set_option maxRecDepth 20000 in
theorem law29_TermsKeeps.L0_ok (a0 : List Tm) (a0_v : Value) (a1 : Int) (b29 : Nat) {r : Bool}  {w0 : World} {M0 M I : Mem} {K : List Item} (hE : Env w0 M0 M I) (hG : Glob M) (hr_a0 : RowS ShTm M a0_v a0) :
  ∀ (k : Nat) (x6_30 : Int) (q : (Unit) ⊕ (Bool)) (h : law29_TermsKeeps.L0 a0 a1 k x6_30 = some q) (hk : match (generalizing:=false) q with | .inl () => (TT Tryd.prog 4 (Post (fun u => u = .bool r) w0) 41 w0 I K [(0,a0_v),(5,ptr b29 0)] [(some b29,.cells (#[.int .i64 2,.int .i64 a1,(.slice none 0 0)]) 25 (0,0))]) | .inr rq => rq = r),
   TT Tryd.prog 4 (Post (fun u => u = .bool r) w0) 41 w0 I (.code (sub [1,1,1,0,1,0,0] B4) :: .inLoop (sub [1,1,1,0,1,0,0] B4) :: .inBlock 0 :: K) [(0,a0_v),(1,.int .i64 a1),(5,ptr b29 0),(6,.int .i64 x6_30)] [(some b29,.cells (#[.int .i64 2,.int .i64 a1,(.slice none 0 0)]) 25 (0,0))]:=by
 intro k
 induction k with
 | zero => intro x6_30 q h; simp [law29_TermsKeeps.L0] at h
 | succ k ih =>
  intro x6_30 q h hk
  unfold law29_TermsKeeps.L0 at h
  refine TT.seq (x:=sub [1,1,1,0,1,0,0,0] B4) (y:=sub [1,1,1,0,1,0,0,1] B4) ?_
  refine TT.seq (x:=sub [1,1,1,0,1,0,0,0,0] B4) (y:=sub [1,1,1,0,1,0,0,0,1] B4) ?_
  refine TT.rg [0,1,2,3] [kp,kp,kp,kp] rfl rfl ?_
  refine DL.mv 21 (.int .i64 x6_30) rfl rfl rfl ?_
  refine DL.mv 22 (a0_v) rfl rfl rfl ?_
  refine DL.pu 23 (.int .i64 (a0.length : Int)) rfl (p_slLen ty_u22 (RowS.sl hr_a0) rfl rfl) ?_
  refine DL.pu 24 (.bool (decide (x6_30 < (a0.length : Int)))) rfl (p_lss rfl rfl rfl) ?_
  refine DL.nil ?_
  by_cases c101 : (decide (x6_30 < (a0.length : Int))) = true
  ·
   have h102:=ite_true c101 h
   refine TT.cond_true (x:=sub [1,1,1,0,1,0,0,0,1,0] B4) (y:=sub [1,1,1,0,1,0,0,0,1,1] B4) rfl c101 ?_
   refine TT.skip ?_
   refine TT.seq (x:=sub [1,1,1,0,1,0,0,1,0] B4) (y:=sub [1,1,1,0,1,0,0,1,1] B4) ?_
   refine TT.block (c:=sub [1,1,1,0,1,0,0,1,0,0] B4) ?_
   refine TT.seq (x:=sub [1,1,1,0,1,0,0,1,0,0,0] B4) (y:=sub [1,1,1,0,1,0,0,1,0,0,1] B4) ?_
   refine TT.rg [0,1,2,3,4,5] [kp,kp,kp,kp,kp,kq] rfl rfl ?_
   refine DL.mv 27 (a0_v) rfl rfl rfl ?_
   refine DL.mv 28 (.int .i64 x6_30) rfl rfl rfl ?_
   obtain ⟨g103,h104⟩:=req_some h102
   obtain ⟨g105,h106⟩:=req_some h104
   refine DL.pu 29 (elp a0_v (x6_30.toNat * 3)) rfl (p_slIx ty_u22 ty_s25 (RowS.some hr_a0 g103 g105) g103 g105 rfl rfl rfl) ?_
   obtain ⟨t108,e109,h110⟩:=nm_some h106
   obtain ⟨cs107,hc107,hl107⟩:=id (hr_a0)
   have q107:=hl107 _ _ (getD_some Tm.dflt (lt_len g103 g105)); rw [← e109] at q107
   obtain ⟨t108_2,hq107,hr_t108_2⟩:=Tm.op q107
   refine DL.imm (v:=.agg (Tm.ce t108 t108_2)) rfl (Wn.none rfl) rfl rfl rfl (i_loadElA (RowV.mono hc107 hE.mi) hq107 (lt_len g103 g105) ty_a25 ty_s25 rfl rfl) ?_
   refine DL.mv 31 (.int .i64 a1) rfl rfl rfl ?_
   obtain ⟨t111,h112,h113⟩:=bind_some h110
   refine DL.qu 32 (.bool t111) rfl (f_callR rfl rfl (args_val (vs:=[.agg (Tm.ce t108 t108_2),.int .i64 a1]) rfl) (fun w => enter18 _ w) (fun w hc => law29_bare.val h112 (M:=M) w (hE.ext hc) hr_t108_2)) ?_
   refine DL.nil ?_
   by_cases c114 : t111 = true
   ·
    have h115:=ite_true c114 h113
    refine TT.cond_true (x:=sub [1,1,1,0,1,0,0,1,0,0,1,0] B4) (y:=sub [1,1,1,0,1,0,0,1,0,0,1,1] B4) rfl c114 ?_
    refine TT.seq (x:=sub [1,1,1,0,1,0,0,1,0,0,1,0,0] B4) (y:=sub [1,1,1,0,1,0,0,1,0,0,1,0,1] B4) ?_
    refine TT.rg [0,1] [kq,kp] rfl rfl ?_
    obtain ⟨t116,h117,h118⟩:=bind_some h115
    refine DL.qu 33 (.bool t116) rfl (f_callR rfl rfl (args_val (vs:=[]) rfl) (fun w => enter11 _ w) (fun w hc => law29_known.val h117 (M:=M) w (hE.ext hc) hG)) ?_
    refine DL.pu 4 (.bool t116) rfl (p_assign rfl rfl) ?_
    refine DL.nil ?_
    obtain rfl:=Option.some.inj h118
    have k119 : t116 = r:=hk
    subst k119
    exact retnE (rs:=[.tmp 4]) (vs:=[.bool t116]) hE.base Tryd.func4 rfl rfl rfl (res_cons (ResV.tmp rfl) res_nil) rfl
   ·
    replace c114:=Bool.eq_false_iff.mpr c114
    have h120:=ite_false c114 h113
    refine TT.cond_false (x:=sub [1,1,1,0,1,0,0,1,0,0,1,0] B4) (y:=sub [1,1,1,0,1,0,0,1,0,0,1,1] B4) rfl c114 ?_
    refine TT.skip ?_
    refine TT.inBlock ?_
    refine TT.rg [0,1,2] [kp,kp,kp] rfl rfl ?_
    refine DL.mv 25 (.int .i64 x6_30) rfl rfl rfl ?_
    refine DL.pu 26 (.int .i64 (IntKind.i64.wrap (x6_30 + 1))) rfl (p_add rfl rfl rfl) ?_
    refine DL.pu 6 (.int .i64 (IntKind.i64.wrap (x6_30 + 1))) rfl (p_assign rfl rfl) ?_
    refine DL.nil ?_
    refine TT.inLoop ?_
    exact TT.weak (ih (IntKind.i64.wrap (x6_30 + 1)) _ h120 hk) (Sub.cons rfl (Sub.cons rfl (Sub.cons rfl (Sub.cons rfl (Sub.nil _)))))
  ·
   replace c101:=Bool.eq_false_iff.mpr c101
   have h121:=ite_false c101 h
   refine TT.cond_false (x:=sub [1,1,1,0,1,0,0,0,1,0] B4) (y:=sub [1,1,1,0,1,0,0,0,1,1] B4) rfl c101 ?_
   refine TT.exit rfl ?_
   obtain rfl:=Option.some.inj h121
   exact TT.weak (hk) (Sub.cons rfl (Sub.cons rfl (Sub.nil _)))

def law29_TermsKeeps.f (a0 : List Tm) (a1 : Int) : Option (Bool):=(ref29_Much.f a0).bind fun t1 => (if t1 = true then (some true) else ((law29_all.f a0).bind fun t12 => some (!t12))).bind fun q5 => (if q5 = true then (some true) else (some (decide (a1 < 0)))).bind fun q16 => if q16 = true then ((law29_known.f).bind fun t25 => some t25) else (onw (law29_TermsKeeps.L0 a0 a1 ((a0.length : Int).toNat + 1) 0) (fun _ => (terms_Can.f (Tm.mk 2 a1 ([] : List Tm)) a0).bind fun t126 => (if (!t126) = true then ((law29_known.f).bind fun t136 => some t136) else (some false)).bind fun q130 => some q130) (fun r => some r))
set_option maxRecDepth 20000 in
theorem law29_TermsKeeps.ok {a0 : List Tm} {a1 : Int} {a0_v : Value} {r : Bool} (h : law29_TermsKeeps.f a0 a1 = some r) {M : Mem} (w : World) (hM : Ext M (heapOf w)) (hG : Glob M) (hr_a0 : RowS ShTm M a0_v a0) : Calls Tryd.prog 4 #[a0_v,.int .i64 a1] w (Post (fun u => u = .bool r) w):=by
 unfold law29_TermsKeeps.f at h
 have hE:=Env.start hM
 refine calls_of_TT (N:=41) (S:=[(0,a0_v),(1,.int .i64 a1)]) (c:=B4) Tryd.func4 rfl rfl rfl (by simp) ?_
 show TT _ _ _ _ _ _ [.code (sub [] B4)] _ _
 refine TT.seq (x:=sub [0] B4) (y:=sub [1] B4) ?_
 refine TT.rg [0] [kp] rfl rfl ?_
 refine DL.pu 4 (.bool false) rfl (p_assign rfl rfl) ?_
 refine DL.nil ?_
 refine TT.seq (x:=sub [1,0] B4) (y:=sub [1,1] B4) ?_
 refine TT.seq (x:=sub [1,0,0] B4) (y:=sub [1,0,1] B4) ?_
 refine TT.rg [0,1,2,3,4,5,6,7,8,9,10] [kp,kq,kp,kp,kq,kp,kp,kp,kp,kp,kp] rfl rfl ?_
 refine DL.mv 7 (a0_v) rfl rfl rfl ?_
 obtain ⟨t1,h2,h3⟩:=bind_some h
 refine DL.qu 8 (.bool t1) rfl (f_callR rfl rfl (args_val (vs:=[a0_v]) rfl) (fun w => enter12 _ w) (fun w hc => ref29_Much.val h2 (M:=M) w (hE.ext hc) hr_a0)) ?_
 refine DL.mv 9 (.bool t1) rfl rfl rfl ?_
 obtain ⟨q5,h6,h7⟩:=bind_some h3
 refine DL.cut [(0,a0_v),(1,.int .i64 a1),(13,.bool q5)] [7,8,9,10] ?_ (fun J8 => ?_)
 ·
  refine DL.mv 14 (.bool q5) rfl rfl rfl ?_
  obtain ⟨q16,h17,h18⟩:=bind_some h7
  refine DL.cut [(0,a0_v),(1,.int .i64 a1),(17,.bool q16)] [] ?_ (fun J19 => ?_)
  ·
   refine DL.nil ?_
   by_cases c23 : q16 = true
   ·
    have h24:=ite_true c23 h18
    refine TT.cond_true (x:=sub [1,0,1,0] B4) (y:=sub [1,0,1,1] B4) rfl c23 ?_
    refine TT.seq (x:=sub [1,0,1,0,0] B4) (y:=sub [1,0,1,0,1] B4) ?_
    refine TT.rg [0,1] [kq,kp] rfl rfl ?_
    obtain ⟨t25,h26,h27⟩:=bind_some h24
    refine DL.qu 18 (.bool t25) rfl (f_callR rfl rfl (args_val (vs:=[]) rfl) (fun w => enter11 _ w) (fun w hc => law29_known.val h26 (M:=M) w (hE.ext hc) hG)) ?_
    refine DL.pu 4 (.bool t25) rfl (p_assign rfl rfl) ?_
    refine DL.nil ?_
    obtain rfl:=Option.some.inj h27
    exact retnE (rs:=[.tmp 4]) (vs:=[.bool t25]) hE.base Tryd.func4 rfl rfl rfl (res_cons (ResV.tmp rfl) res_nil) rfl
   ·
    replace c23:=Bool.eq_false_iff.mpr c23
    have h28:=ite_false c23 h18
    refine TT.cond_false (x:=sub [1,0,1,0] B4) (y:=sub [1,0,1,1] B4) rfl c23 ?_
    refine TT.skip ?_
    refine TT.seq (x:=sub [1,1,0] B4) (y:=sub [1,1,1] B4) ?_
    refine TT.rg [0,1,2,3] [kp,kp,(.alloc,none),(.store,none)] rfl rfl ?_
    refine DL.mv 19 (.int .i64 a1) rfl rfl rfl ?_
    refine DL.pu 20 (.agg #[.int .i64 2,.int .i64 a1,(.slice none 0 0)]) rfl (p_build (vs:=[(0,.int .i64 2),(1,.int .i64 a1)]) (fun w => by kernel_rfl) rfl rfl) ?_
    refine DL.new (ob:=.cells (#[.int .i64 0,.int .i64 0,(.slice none 0 0)]) 25) (mk:=fun b => ptr b 0) (i:=2) rfl (Wn.none rfl) rfl rfl rfl (f_alloc ty_z25 rfl) ?_
    intro b29 hb29
    refine DL.put (H':=[(some b29,.cells (#[.int .i64 2,.int .i64 a1,(.slice none 0 0)]) 25 (0,0))]) (i:=3) rfl (Wn.none rfl) rfl rfl (f_storeA (j:=0) ty_s25 rfl rfl rfl (one_cons trivial (one_cons trivial (one_cons (sl_one (RowS.sl (RowS.nil ShTm M))) one_nil))) rfl rfl rfl) (keep_none rfl) ?_
    refine DL.nil ?_
    refine TT.seq (x:=sub [1,1,1,0] B4) (y:=sub [1,1,1,1] B4) ?_
    refine TT.seq (x:=sub [1,1,1,0,0] B4) (y:=sub [1,1,1,0,1] B4) ?_
    refine TT.rg [0] [kp] rfl rfl ?_
    refine DL.pu 6 (.int .i64 0) rfl (p_assign rfl rfl) ?_
    refine DL.nil ?_
    refine TT.block (c:=sub [1,1,1,0,1,0] B4) ?_
    refine TT.loop (c:=sub [1,1,1,0,1,0,0] B4) ?_
    rcases onw_some h28 with ⟨_,h122,h123⟩ | ⟨r125,h122,h123⟩
    ·
     refine TT.weak (law29_TermsKeeps.L0_ok a0 a0_v a1 b29 hE hG hr_a0 ((a0.length : Int).toNat + 1) 0 (.inl ()) h122 (?_)) (Sub.cons rfl (Sub.cons rfl (Sub.cons rfl (Sub.cons rfl (Sub.nil _)))))
     show TT _ _ _ _ _ _ _ _ _
     refine TT.seq (x:=sub [1,1,1,1,0] B4) (y:=sub [1,1,1,1,1] B4) ?_
     refine TT.rg [0,1,2,3,4,5,6,7] [kq,kp,kq,kp,kp,kq,kp,kp] rfl rfl ?_
     refine DL.qu 34 (.agg #[.int .i64 2,.int .i64 a1,(.slice none 0 0)]) rfl (f_loadA (j:=0) ty_a25 ty_s25 rfl rfl rfl rfl) ?_
     refine DL.mv 35 (a0_v) rfl rfl rfl ?_
     obtain ⟨t126,h127,h128⟩:=bind_some h123
     refine DL.qu 36 (.bool t126) rfl (f_callR rfl rfl (args_val (vs:=[.agg #[.int .i64 2,.int .i64 a1,(.slice none 0 0)],a0_v]) rfl) (fun w => enter16 _ w) (fun w hc => terms_Can.val h127 (M:=M) w (hE.ext hc) hG (RowS.nil ShTm M) hr_a0)) ?_
     refine DL.pu 37 (.bool (!t126)) rfl (p_not rfl rfl) ?_
     refine DL.mv 38 (.bool (!t126)) rfl rfl rfl ?_
     obtain ⟨q130,h131,h132⟩:=bind_some h128
     refine DL.cut [(40,.bool q130)] [7] ?_ (fun J133 => ?_)
     ·
      refine DL.pu 4 (.bool q130) rfl (p_assign rfl rfl) ?_
      refine DL.nil ?_
      obtain rfl:=Option.some.inj h132
      exact retnE (rs:=[.tmp 4]) (vs:=[.bool q130]) hE.base Tryd.func4 rfl rfl rfl (res_cons (ResV.tmp rfl) res_nil) rfl
     ·
      by_cases c134 : (!t126) = true
      ·
       have h135:=ite_true c134 h131
       obtain ⟨t136,h137,h138⟩:=bind_some h135
       refine DL.quiet (v:=.bool t136) rfl (Wn.yes c134 rfl rfl rfl rfl) rfl rfl rfl (f_callR rfl rfl (args_val (vs:=[]) rfl) (fun w => enter11 _ w) (fun w hc => law29_known.val h137 (M:=M) w (hE.ext hc) hG)) ?_
       refine DL.pu 40 (.bool t136) rfl (p_pick_t c134 rfl rfl rfl) ?_
       obtain rfl:=Option.some.inj h138
       exact DL.weak J133 (Sub.cons rfl (Sub.nil _))
      ·
       replace c134:=Bool.eq_false_iff.mpr c134
       have h139:=ite_false c134 h131
       refine DL.not (i:=5) rfl (Wn.no c134 rfl rfl rfl rfl) rfl rfl ?_
       refine DL.pu 40 (.bool false) rfl (p_pick_f c134 rfl rfl rfl) ?_
       obtain rfl:=Option.some.inj h139
       exact DL.weak J133 (Sub.cons rfl (Sub.nil _))
    ·
     obtain rfl:=Option.some.inj h123
     exact TT.weak (law29_TermsKeeps.L0_ok a0 a0_v a1 b29 hE hG hr_a0 ((a0.length : Int).toNat + 1) 0 (.inr r125) h122 rfl) (Sub.cons rfl (Sub.cons rfl (Sub.cons rfl (Sub.cons rfl (Sub.nil _)))))
  ·
   by_cases c20 : q5 = true
   ·
    have h21:=ite_true c20 h17
    refine DL.not (i:=8) rfl (Wn.yes c20 rfl rfl rfl rfl) rfl rfl ?_
    refine DL.not (i:=9) rfl (Wn.yes c20 rfl rfl rfl rfl) rfl rfl ?_
    refine DL.pu 17 (.bool true) rfl (p_pick_t c20 rfl rfl rfl) ?_
    obtain rfl:=Option.some.inj h21
    exact DL.weak J19 (Sub.cons rfl (Sub.cons rfl (Sub.cons rfl (Sub.nil _))))
   ·
    replace c20:=Bool.eq_false_iff.mpr c20
    have h22:=ite_false c20 h17
    refine DL.pure (v:=.int .i64 a1) rfl (Wn.no c20 rfl rfl rfl rfl) rfl rfl rfl (p_move rfl rfl) ?_
    refine DL.pure (v:=.bool (decide (a1 < 0))) rfl (Wn.no c20 rfl rfl rfl rfl) rfl rfl rfl (p_lss rfl rfl rfl) ?_
    refine DL.pu 17 (.bool (decide (a1 < 0))) rfl (p_pick_f c20 rfl rfl rfl) ?_
    obtain rfl:=Option.some.inj h22
    exact DL.weak J19 (Sub.cons rfl (Sub.cons rfl (Sub.cons rfl (Sub.nil _))))
 ·
  by_cases c9 : t1 = true
  ·
   have h10:=ite_true c9 h6
   refine DL.not (i:=3) rfl (Wn.yes c9 rfl rfl rfl rfl) rfl rfl ?_
   refine DL.not (i:=4) rfl (Wn.yes c9 rfl rfl rfl rfl) rfl rfl ?_
   refine DL.not (i:=5) rfl (Wn.yes c9 rfl rfl rfl rfl) rfl rfl ?_
   refine DL.pu 13 (.bool true) rfl (p_pick_t c9 rfl rfl rfl) ?_
   obtain rfl:=Option.some.inj h10
   exact DL.weak J8 (Sub.cons rfl (Sub.cons rfl (Sub.cons rfl (Sub.nil _))))
  ·
   replace c9:=Bool.eq_false_iff.mpr c9
   have h11:=ite_false c9 h6
   refine DL.pure (v:=a0_v) rfl (Wn.no c9 rfl rfl rfl rfl) rfl rfl rfl (p_move rfl rfl) ?_
   obtain ⟨t12,h13,h14⟩:=bind_some h11
   refine DL.quiet (v:=.bool t12) rfl (Wn.no c9 rfl rfl rfl rfl) rfl rfl rfl (f_callR rfl rfl (args_val (vs:=[a0_v]) rfl) (fun w => enter14 _ w) (fun w hc => law29_all.val h13 (M:=M) w (hE.ext hc) hr_a0)) ?_
   refine DL.pure (v:=.bool (!t12)) rfl (Wn.no c9 rfl rfl rfl rfl) rfl rfl rfl (p_not rfl rfl) ?_
   refine DL.pu 13 (.bool (!t12)) rfl (p_pick_f c9 rfl rfl rfl) ?_
   obtain rfl:=Option.some.inj h14
   exact DL.weak J8 (Sub.cons rfl (Sub.cons rfl (Sub.cons rfl (Sub.nil _))))
theorem law29_TermsKeeps.val {a0 : List Tm} {a1 : Int} {a0_v : Value} {r : Bool} (h : law29_TermsKeeps.f a0 a1 = some r) {M : Mem} (w : World) (hM : Ext M (heapOf w)) (hG : Glob M) (hr_a0 : RowS ShTm M a0_v a0) : Calls Tryd.prog 4 #[a0_v,.int .i64 a1] w fun e w' => e = .returned (.bool r) ∧ Below w.heap.size w w' :=
 calls_value (law29_TermsKeeps.ok h w hM hG hr_a0)

/-! ### escutcheon/escutcheonlaw29.TermsMeans: function 3 -/
noncomputable def B3 : Code:=bodyOf Tryd.f3
def law29_TermsMeans.L0 (a0 : List Tm) : Nat → Int → Option ((Unit) ⊕ (Bool))
 | 0,_ => none
 | k + 1,x7_70 => if (decide (x7_70 < (a0.length : Int))) = true then (req (0 ≤ x7_70) (req (x7_70 < (a0.length : Int)) (nm (a0.getD x7_70.toNat Tm.dflt) fun t145 => (terms_Can.f t145 a0).bind fun t148 => if (!t148) = true then (some (.inr false)) else (law29_TermsMeans.L0 a0 k (IntKind.i64.wrap (x7_70 + 1)))))) else (some (.inl ()))
set_option maxRecDepth 20000 in
theorem law29_TermsMeans.L0_ok (a0 : List Tm) (a0_v : Value) (a1 : Tm) (a1_2 : Value) (a2 : Tm) (a2_2 : Value) (b1 : Nat) (b2 : Nat) {r : Bool}  {w0 : World} {M0 M I : Mem} {K : List Item} (hE : Env w0 M0 M I) (hG : Glob M) (hr_a0 : RowS ShTm M a0_v a0) :
  ∀ (k : Nat) (x7_70 : Int) (q : (Unit) ⊕ (Bool)) (h : law29_TermsMeans.L0 a0 k x7_70 = some q) (hk : match (generalizing:=false) q with | .inl () => (TT Tryd.prog 3 (Post (fun u => u = .bool r) w0) 85 w0 I K [(0,a0_v),(4,ptr b1 0),(5,ptr b2 0)] [(some b2,.cells ((Tm.ce a2 a2_2)) 25 (0,0)),(some b1,.cells ((Tm.ce a1 a1_2)) 25 (0,0))]) | .inr rq => rq = r),
   TT Tryd.prog 3 (Post (fun u => u = .bool r) w0) 85 w0 I (.code (sub [1,1,1,0,1,0,0] B3) :: .inLoop (sub [1,1,1,0,1,0,0] B3) :: .inBlock 0 :: K) [(0,a0_v),(4,ptr b1 0),(5,ptr b2 0),(7,.int .i64 x7_70)] [(some b2,.cells ((Tm.ce a2 a2_2)) 25 (0,0)),(some b1,.cells ((Tm.ce a1 a1_2)) 25 (0,0))]:=by
 intro k
 induction k with
 | zero => intro x7_70 q h; simp [law29_TermsMeans.L0] at h
 | succ k ih =>
  intro x7_70 q h hk
  unfold law29_TermsMeans.L0 at h
  refine TT.seq (x:=sub [1,1,1,0,1,0,0,0] B3) (y:=sub [1,1,1,0,1,0,0,1] B3) ?_
  refine TT.seq (x:=sub [1,1,1,0,1,0,0,0,0] B3) (y:=sub [1,1,1,0,1,0,0,0,1] B3) ?_
  refine TT.rg [0,1,2,3] [kp,kp,kp,kp] rfl rfl ?_
  refine DL.mv 40 (.int .i64 x7_70) rfl rfl rfl ?_
  refine DL.mv 41 (a0_v) rfl rfl rfl ?_
  refine DL.pu 42 (.int .i64 (a0.length : Int)) rfl (p_slLen ty_u22 (RowS.sl hr_a0) rfl rfl) ?_
  refine DL.pu 43 (.bool (decide (x7_70 < (a0.length : Int)))) rfl (p_lss rfl rfl rfl) ?_
  refine DL.nil ?_
  by_cases c138 : (decide (x7_70 < (a0.length : Int))) = true
  ·
   have h139:=ite_true c138 h
   refine TT.cond_true (x:=sub [1,1,1,0,1,0,0,0,1,0] B3) (y:=sub [1,1,1,0,1,0,0,0,1,1] B3) rfl c138 ?_
   refine TT.skip ?_
   refine TT.seq (x:=sub [1,1,1,0,1,0,0,1,0] B3) (y:=sub [1,1,1,0,1,0,0,1,1] B3) ?_
   refine TT.block (c:=sub [1,1,1,0,1,0,0,1,0,0] B3) ?_
   refine TT.seq (x:=sub [1,1,1,0,1,0,0,1,0,0,0] B3) (y:=sub [1,1,1,0,1,0,0,1,0,0,1] B3) ?_
   refine TT.rg [0,1,2,3,4,5,6] [kp,kp,kp,kp,kp,kq,kp] rfl rfl ?_
   refine DL.mv 46 (a0_v) rfl rfl rfl ?_
   refine DL.mv 47 (.int .i64 x7_70) rfl rfl rfl ?_
   obtain ⟨g140,h141⟩:=req_some h139
   obtain ⟨g142,h143⟩:=req_some h141
   refine DL.pu 48 (elp a0_v (x7_70.toNat * 3)) rfl (p_slIx ty_u22 ty_s25 (RowS.some hr_a0 g140 g142) g140 g142 rfl rfl rfl) ?_
   obtain ⟨t145,e146,h147⟩:=nm_some h143
   obtain ⟨cs144,hc144,hl144⟩:=id (hr_a0)
   have q144:=hl144 _ _ (getD_some Tm.dflt (lt_len g140 g142)); rw [← e146] at q144
   obtain ⟨t145_2,hq144,hr_t145_2⟩:=Tm.op q144
   refine DL.imm (v:=.agg (Tm.ce t145 t145_2)) rfl (Wn.none rfl) rfl rfl rfl (i_loadElA (RowV.mono hc144 hE.mi) hq144 (lt_len g140 g142) ty_a25 ty_s25 rfl rfl) ?_
   refine DL.mv 50 (a0_v) rfl rfl rfl ?_
   obtain ⟨t148,h149,h150⟩:=bind_some h147
   refine DL.qu 51 (.bool t148) rfl (f_callR rfl rfl (args_val (vs:=[.agg (Tm.ce t145 t145_2),a0_v]) rfl) (fun w => enter16 _ w) (fun w hc => terms_Can.val h149 (M:=M) w (hE.ext hc) hG hr_t145_2 hr_a0)) ?_
   refine DL.pu 52 (.bool (!t148)) rfl (p_not rfl rfl) ?_
   refine DL.nil ?_
   by_cases c151 : (!t148) = true
   ·
    have h152:=ite_true c151 h150
    refine TT.cond_true (x:=sub [1,1,1,0,1,0,0,1,0,0,1,0] B3) (y:=sub [1,1,1,0,1,0,0,1,0,0,1,1] B3) rfl c151 ?_
    refine TT.seq (x:=sub [1,1,1,0,1,0,0,1,0,0,1,0,0] B3) (y:=sub [1,1,1,0,1,0,0,1,0,0,1,0,1] B3) ?_
    refine TT.rg [0] [kp] rfl rfl ?_
    refine DL.pu 6 (.bool false) rfl (p_assign rfl rfl) ?_
    refine DL.nil ?_
    obtain rfl:=Option.some.inj h152
    have k153 : false = r:=hk
    subst k153
    exact retnE (rs:=[.tmp 6]) (vs:=[.bool false]) hE.base Tryd.func3 rfl rfl rfl (res_cons (ResV.tmp rfl) res_nil) rfl
   ·
    replace c151:=Bool.eq_false_iff.mpr c151
    have h154:=ite_false c151 h150
    refine TT.cond_false (x:=sub [1,1,1,0,1,0,0,1,0,0,1,0] B3) (y:=sub [1,1,1,0,1,0,0,1,0,0,1,1] B3) rfl c151 ?_
    refine TT.skip ?_
    refine TT.inBlock ?_
    refine TT.rg [0,1,2] [kp,kp,kp] rfl rfl ?_
    refine DL.mv 44 (.int .i64 x7_70) rfl rfl rfl ?_
    refine DL.pu 45 (.int .i64 (IntKind.i64.wrap (x7_70 + 1))) rfl (p_add rfl rfl rfl) ?_
    refine DL.pu 7 (.int .i64 (IntKind.i64.wrap (x7_70 + 1))) rfl (p_assign rfl rfl) ?_
    refine DL.nil ?_
    refine TT.inLoop ?_
    exact TT.weak (ih (IntKind.i64.wrap (x7_70 + 1)) _ h154 hk) (Sub.cons rfl (Sub.cons rfl (Sub.cons rfl (Sub.cons rfl (Sub.nil _)))))
  ·
   replace c138:=Bool.eq_false_iff.mpr c138
   have h155:=ite_false c138 h
   refine TT.cond_false (x:=sub [1,1,1,0,1,0,0,0,1,0] B3) (y:=sub [1,1,1,0,1,0,0,0,1,1] B3) rfl c138 ?_
   refine TT.exit rfl ?_
   obtain rfl:=Option.some.inj h155
   exact TT.weak (hk) (Sub.cons rfl (Sub.cons rfl (Sub.cons rfl (Sub.nil _))))

def law29_TermsMeans.f (a0 : List Tm) (a1 : Tm) (a2 : Tm) : Option (Bool):=(law29_known.f).bind fun t3 => if (!t3) = true then (some false) else ((ref29_Much.f a0).bind fun t9 => (if t9 = true then (some true) else ((ref29_Size.f (Tm.fuel a1) a1 301).bind fun t20 => some (decide (300 < t20)))).bind fun q13 => (if q13 = true then (some true) else ((ref29_Size.f (Tm.fuel a2) a2 301).bind fun t31 => some (decide (300 < t31)))).bind fun q24 => (if q24 = true then (some true) else ((law29_all.f a0).bind fun t42 => some (!t42))).bind fun q35 => (if q35 = true then (some true) else ((ref29_May.f a1).bind fun t53 => some (!t53))).bind fun q46 => (if q46 = true then (some true) else ((ref29_May.f a2).bind fun t64 => some (!t64))).bind fun q57 => if q57 = true then (some true) else (onw (law29_TermsMeans.L0 a0 ((a0.length : Int).toNat + 1) 0) (fun _ => req (a0.length ≤ 1099511627776) (req ((a0).length + [a2].length ≤ 1099511627776) ((terms_Can.f a1 a0).bind fun t171 => (terms_Can.f a1 ((a0) ++ [a2])).bind fun t174 => (if t171 = true then (some (!t174)) else (some false)).bind fun q178 => (if q178 = true then (some true) else ((terms_Can.f a2 a0).bind fun t193 => (if t193 = true then (some (!(t171 == t174))) else (some false)).bind fun q197 => some q197)).bind fun q186 => if q186 = true then (some false) else ((ref29_Order.f (Tm.fuel a1) a1).bind fun t207 => (terms_Can.f t207 a0).bind fun t211 => some (t211 == t171))))) (fun r => some r)))
set_option maxRecDepth 20000 in
theorem law29_TermsMeans.ok {a0 : List Tm} {a1 : Tm} {a2 : Tm} {a0_v : Value} {a1_2 : Value} {a2_2 : Value} {r : Bool} (h : law29_TermsMeans.f a0 a1 a2 = some r) {M : Mem} (w : World) (hM : Ext M (heapOf w)) (hG : Glob M) (hr_a0 : RowS ShTm M a0_v a0) (hr_a1_2 : RowS ShTm M a1_2 (Tree.kids a1)) (hr_a2_2 : RowS ShTm M a2_2 (Tree.kids a2)) : Calls Tryd.prog 3 #[a0_v,.agg (Tm.ce a1 a1_2),.agg (Tm.ce a2 a2_2)] w (Post (fun u => u = .bool r) w):=by
 unfold law29_TermsMeans.f at h
 have hE:=Env.start hM
 refine calls_of_TT (N:=85) (S:=[(0,a0_v),(1,.agg (Tm.ce a1 a1_2)),(2,.agg (Tm.ce a2 a2_2))]) (c:=B3) Tryd.func3 rfl rfl rfl (by simp) ?_
 show TT _ _ _ _ _ _ [.code (sub [] B3)] _ _
 refine TT.seq (x:=sub [0] B3) (y:=sub [1] B3) ?_
 refine TT.rg [0,1,2] [(.alloc,none),(.alloc,none),kp] rfl rfl ?_
 refine DL.new (ob:=.cells ((Tm.ce a1 a1_2)) 25) (mk:=fun b => ptr b 0) (i:=0) rfl (Wn.none rfl) rfl rfl rfl (f_box (v:=.agg (Tm.ce a1 a1_2)) rfl rfl) ?_
 intro b1 hb1
 refine DL.new (ob:=.cells ((Tm.ce a2 a2_2)) 25) (mk:=fun b => ptr b 0) (i:=1) rfl (Wn.none rfl) rfl rfl rfl (f_box (v:=.agg (Tm.ce a2 a2_2)) rfl rfl) ?_
 intro b2 hb2
 refine DL.pu 6 (.bool false) rfl (p_assign rfl rfl) ?_
 refine DL.nil ?_
 refine TT.seq (x:=sub [1,0] B3) (y:=sub [1,1] B3) ?_
 refine TT.seq (x:=sub [1,0,0] B3) (y:=sub [1,0,1] B3) ?_
 refine TT.rg [0,1] [kq,kp] rfl rfl ?_
 obtain ⟨t3,h4,h5⟩:=bind_some h
 refine DL.qu 11 (.bool t3) rfl (f_callR rfl rfl (args_val (vs:=[]) rfl) (fun w => enter11 _ w) (fun w hc => law29_known.val h4 (M:=M) w (hE.ext hc) hG)) ?_
 refine DL.pu 12 (.bool (!t3)) rfl (p_not rfl rfl) ?_
 refine DL.nil ?_
 by_cases c6 : (!t3) = true
 ·
  have h7:=ite_true c6 h5
  refine TT.cond_true (x:=sub [1,0,1,0] B3) (y:=sub [1,0,1,1] B3) rfl c6 ?_
  refine TT.seq (x:=sub [1,0,1,0,0] B3) (y:=sub [1,0,1,0,1] B3) ?_
  refine TT.rg [0] [kp] rfl rfl ?_
  refine DL.pu 6 (.bool false) rfl (p_assign rfl rfl) ?_
  refine DL.nil ?_
  obtain rfl:=Option.some.inj h7
  exact retnE (rs:=[.tmp 6]) (vs:=[.bool false]) hE.base Tryd.func3 rfl rfl rfl (res_cons (ResV.tmp rfl) res_nil) rfl
 ·
  replace c6:=Bool.eq_false_iff.mpr c6
  have h8:=ite_false c6 h5
  refine TT.cond_false (x:=sub [1,0,1,0] B3) (y:=sub [1,0,1,1] B3) rfl c6 ?_
  refine TT.skip ?_
  refine TT.seq (x:=sub [1,1,0] B3) (y:=sub [1,1,1] B3) ?_
  refine TT.seq (x:=sub [1,1,0,0] B3) (y:=sub [1,1,0,1] B3) ?_
  refine TT.rg [0,1,2,3,4,5,6,7,8,9,10,11,12,13,14,15,16,17,18,19,20,21,22,23,24,25,26] [kp,kq,kp,kq,kq,kp,kp,kp,kq,kq,kp,kp,kp,kp,kq,kp,kp,kp,kq,kq,kp,kp,kp,kq,kq,kp,kp] rfl rfl ?_
  refine DL.mv 13 (a0_v) rfl rfl rfl ?_
  obtain ⟨t9,h10,h11⟩:=bind_some h8
  refine DL.qu 14 (.bool t9) rfl (f_callR rfl rfl (args_val (vs:=[a0_v]) rfl) (fun w => enter12 _ w) (fun w hc => ref29_Much.val h10 (M:=M) w (hE.ext hc) hr_a0)) ?_
  refine DL.mv 15 (.bool t9) rfl rfl rfl ?_
  obtain ⟨q13,h14,h15⟩:=bind_some h11
  refine DL.cut [(0,a0_v),(4,ptr b1 0),(5,ptr b2 0),(19,.bool q13)] [7,8,9,10,11,12,13,14,15,16,17,18,19,20,21,22,23,24,25,26] ?_ (fun J16 => ?_)
  ·
   refine DL.mv 20 (.bool q13) rfl rfl rfl ?_
   obtain ⟨q24,h25,h26⟩:=bind_some h15
   refine DL.cut [(0,a0_v),(4,ptr b1 0),(5,ptr b2 0),(24,.bool q24)] [12,13,14,15,16,17,18,19,20,21,22,23,24,25,26] ?_ (fun J27 => ?_)
   ·
    refine DL.mv 25 (.bool q24) rfl rfl rfl ?_
    obtain ⟨q35,h36,h37⟩:=bind_some h26
    refine DL.cut [(0,a0_v),(4,ptr b1 0),(5,ptr b2 0),(29,.bool q35)] [17,18,19,20,21,22,23,24,25,26] ?_ (fun J38 => ?_)
    ·
     refine DL.mv 30 (.bool q35) rfl rfl rfl ?_
     obtain ⟨q46,h47,h48⟩:=bind_some h37
     refine DL.cut [(0,a0_v),(4,ptr b1 0),(5,ptr b2 0),(34,.bool q46)] [22,23,24,25,26] ?_ (fun J49 => ?_)
     ·
      refine DL.mv 35 (.bool q46) rfl rfl rfl ?_
      obtain ⟨q57,h58,h59⟩:=bind_some h48
      refine DL.cut [(0,a0_v),(4,ptr b1 0),(5,ptr b2 0),(39,.bool q57)] [] ?_ (fun J60 => ?_)
      ·
       refine DL.nil ?_
       by_cases c67 : q57 = true
       ·
        have h68:=ite_true c67 h59
        refine TT.cond_true (x:=sub [1,1,0,1,0] B3) (y:=sub [1,1,0,1,1] B3) rfl c67 ?_
        refine TT.seq (x:=sub [1,1,0,1,0,0] B3) (y:=sub [1,1,0,1,0,1] B3) ?_
        refine TT.rg [0] [kp] rfl rfl ?_
        refine DL.pu 6 (.bool true) rfl (p_assign rfl rfl) ?_
        refine DL.nil ?_
        obtain rfl:=Option.some.inj h68
        exact retnE (rs:=[.tmp 6]) (vs:=[.bool true]) hE.base Tryd.func3 rfl rfl rfl (res_cons (ResV.tmp rfl) res_nil) rfl
       ·
        replace c67:=Bool.eq_false_iff.mpr c67
        have h69:=ite_false c67 h59
        refine TT.cond_false (x:=sub [1,1,0,1,0] B3) (y:=sub [1,1,0,1,1] B3) rfl c67 ?_
        refine TT.skip ?_
        refine TT.seq (x:=sub [1,1,1,0] B3) (y:=sub [1,1,1,1] B3) ?_
        refine TT.seq (x:=sub [1,1,1,0,0] B3) (y:=sub [1,1,1,0,1] B3) ?_
        refine TT.rg [0] [kp] rfl rfl ?_
        refine DL.pu 7 (.int .i64 0) rfl (p_assign rfl rfl) ?_
        refine DL.nil ?_
        refine TT.block (c:=sub [1,1,1,0,1,0] B3) ?_
        refine TT.loop (c:=sub [1,1,1,0,1,0,0] B3) ?_
        rcases onw_some h69 with ⟨_,h156,h157⟩ | ⟨r159,h156,h157⟩
        ·
         refine TT.weak (law29_TermsMeans.L0_ok a0 a0_v a1 a1_2 a2 a2_2 b1 b2 hE hG hr_a0 ((a0.length : Int).toNat + 1) 0 (.inl ()) h156 (?_)) (Sub.cons rfl (Sub.cons rfl (Sub.cons rfl (Sub.cons rfl (Sub.nil _)))))
         show TT _ _ _ _ _ _ _ _ _
         refine TT.seq (x:=sub [1,1,1,1,0] B3) (y:=sub [1,1,1,1,1] B3) ?_
         refine TT.rgD [0,2,1,3,4,5] [0,1,0,4,15,31] [kp,(.free,none),(.look,some 0),(.alloc,none),kx,kp] rfl mixed (by kernel_rfl) ?_
         intro w160 hl160 hj160 hz160
         refine DL.mv 53 (a0_v) rfl rfl rfl ?_
         refine DL.look (v:=.agg (Tm.ce a2 a2_2)) (x:=0) (b:=b2) (i:=2) rfl (Wn.none rfl) rfl rfl rfl rfl rfl (List.mem_of_getElem? (i:=0) rfl) (b_loadA ty_a25 ty_s25 rfl rfl rfl) ?_
         obtain ⟨g162,h163⟩:=req_some h157
         refine DL.appendS0f (M:=M) (s:=ShTm) (fun s164_v s164_c => [(Value.ownBlock s164_v,.cells s164_c 25 (0,0)),(some b2,.cells ((Tm.ce a2 a2_2)) 25 (0,0)),(some b1,.cells ((Tm.ce a1 a1_2)) 25 (0,0))]) elem22  g162 (by decide) (RowS.srcC hr_a0 (fun w hc => ((fun w hc => hE.imm hc)) w hc.tail)) (i:=1) rfl (Wn.none rfl) rfl rfl rfl rfl rfl rfl (fun _ _ => rfl) ?_
         intro s164_v s164_c ho_s164
         show DL _ _ _ _ _ _ _ _ _ _ _ _ [(Value.ownBlock s164_v,.cells s164_c 25 (0,0)),(some b2,.cells ((Tm.ce a2 a2_2)) 25 (0,0)),(some b1,.cells ((Tm.ce a1 a1_2)) 25 (0,0))]
         refine DL.newS (M:=M) (s:=ShTm) (zs:=[a2]) (cells:=[.int .i64 (Tm.kind a2),.int .i64 (Tm.num a2),a2_2]) (n:=1) rfl (by decide) rfl (fun i x hx => by match i,hx with | 0,hx => cases hx; exact (Tm.cl (t:=a2) hr_a2_2) | k + 1,hx => simp at hx) (i:=3) rfl (Wn.none rfl) rfl rfl rfl (f_buildS (n:=1) (vs:=[(0,.agg (Tm.ce a2 a2_2))]) elem22 rfl rfl (by kernel_rfl) rfl (args_val2 rfl)) ?_
         intro s166_v s166_c ho_s166
         obtain ⟨g167,h168⟩:=req_some h163
         refine DL.appendS (M:=M) (s:=ShTm) (fun s169_v s169_c => [(Value.ownBlock s166_v,.cells s166_c 25 (0,0)),(Value.ownBlock s169_v,.cells s169_c 25 (0,0)),(some b2,.cells ((Tm.ce a2 a2_2)) 25 (0,0)),(some b1,.cells ((Tm.ce a1 a1_2)) 25 (0,0))]) elem22 (j:=1) rfl ho_s164 g167 (by decide) (OwnS.src (i:=0) ho_s166 rfl) (i:=4) rfl (Wn.none rfl) rfl rfl rfl rfl rfl rfl (fun _ _ => rfl) ?_
         intro s169_v s169_c ho_s169
         show DL _ _ _ _ _ _ _ _ _ _ _ _ [(Value.ownBlock s166_v,.cells s166_c 25 (0,0)),(Value.ownBlock s169_v,.cells s169_c 25 (0,0)),(some b2,.cells ((Tm.ce a2 a2_2)) 25 (0,0)),(some b1,.cells ((Tm.ce a1 a1_2)) 25 (0,0))]
         refine DL.pu 8 (s169_v) rfl (p_assign rfl rfl) ?_
         refine DL.nil' hl160 ?_
         refine TT.seq (x:=sub [1,1,1,1,1,0] B3) (y:=sub [1,1,1,1,1,1] B3) ?_
         refine TT.rgD [0,1,2,3,4,5,6,7] [0,0,3,0,0,31,63,127] [(.look,some 3),kp,kq,(.look,some 3),kp,kq,kp,kp] rfl mixed (by kernel_rfl) ?_
         intro w170 hl170 hj170 hz170
         refine DL.look (v:=.agg (Tm.ce a1 a1_2)) (x:=3) (b:=b1) (i:=0) rfl (Wn.none rfl) rfl rfl rfl rfl rfl (List.mem_of_getElem? (i:=3) rfl) (b_loadA ty_a25 ty_s25 rfl rfl rfl) ?_
         refine DL.mv 59 (a0_v) rfl rfl rfl ?_
         obtain ⟨t171,h172,h173⟩:=bind_some h168
         refine DL.qu 60 (.bool t171) rfl (f_callR rfl rfl (args_val (vs:=[.agg (Tm.ce a1 a1_2),a0_v]) rfl) (fun w => enter16 _ w) (fun w hc => terms_Can.val h172 (M:=M) w (hE.ext hc) hG hr_a1_2 hr_a0)) ?_
         refine DL.look (v:=.agg (Tm.ce a1 a1_2)) (x:=3) (b:=b1) (i:=3) rfl (Wn.none rfl) rfl rfl rfl rfl rfl (List.mem_of_getElem? (i:=3) rfl) (b_loadA ty_a25 ty_s25 rfl rfl rfl) ?_
         refine DL.mv 62 (s169_v) rfl rfl rfl ?_
         obtain ⟨t174,h175,h176⟩:=bind_some h173
         refine DL.qu 63 (.bool t174) rfl (f_callR rfl rfl (args_val (vs:=[.agg (Tm.ce a1 a1_2),s169_v]) rfl) (fun w => enter16 _ w) (fun w hc => terms_Can.val h175 (M:=heapOf w) w (Ext.refl _) (Glob.mono hG (hE.ext hc)) (RowS.mono hr_a1_2 (hE.ext hc)) (OwnS.row ho_s169 (hE.ext hc) hc (i:=1) rfl))) ?_
         refine DL.pu 9 (.bool t171) rfl (p_assign rfl rfl) ?_
         refine DL.pu 10 (.bool t174) rfl (p_assign rfl rfl) ?_
         refine DL.nil' hl170 ?_
         refine TT.seq (x:=sub [1,1,1,1,1,1,0] B3) (y:=sub [1,1,1,1,1,1,1] B3) ?_
         refine TT.seq (x:=sub [1,1,1,1,1,1,0,0] B3) (y:=sub [1,1,1,1,1,1,0,1] B3) ?_
         refine TT.rg [0,1,2,3,4,5,6,7,8,9,10,11,12,13,14] [kp,kp,kp,kp,kp,kp,kq,kp,kq,kp,kp,kp,kp,kp,kp] rfl rfl ?_
         refine DL.mv 64 (.bool t171) rfl rfl rfl ?_
         refine DL.mv 65 (.bool t171) rfl rfl rfl ?_
         obtain ⟨q178,h179,h180⟩:=bind_some h176
         refine DL.cut [(0,a0_v),(4,ptr b1 0),(5,ptr b2 0),(9,.bool t171),(10,.bool t174),(68,.bool q178)] [5,6,7,8,9,10,11,12,13,14] ?_ (fun J181 => ?_)
         ·
          refine DL.mv 69 (.bool q178) rfl rfl rfl ?_
          obtain ⟨q186,h187,h188⟩:=bind_some h180
          refine DL.cut [(0,a0_v),(4,ptr b1 0),(9,.bool t171),(78,.bool q186)] [] ?_ (fun J189 => ?_)
          ·
           refine DL.nil ?_
           by_cases c204 : q186 = true
           ·
            have h205:=ite_true c204 h188
            refine TT.cond_true (x:=sub [1,1,1,1,1,1,0,1,0] B3) (y:=sub [1,1,1,1,1,1,0,1,1] B3) rfl c204 ?_
            refine TT.seq (x:=sub [1,1,1,1,1,1,0,1,0,0] B3) (y:=sub [1,1,1,1,1,1,0,1,0,1] B3) ?_
            refine TT.rg [0] [kp] rfl rfl ?_
            refine DL.pu 6 (.bool false) rfl (p_assign rfl rfl) ?_
            refine DL.nil ?_
            obtain rfl:=Option.some.inj h205
            exact retnE (rs:=[.tmp 6]) (vs:=[.bool false]) hE.base Tryd.func3 rfl rfl rfl (res_cons (ResV.tmp rfl) res_nil) rfl
           ·
            replace c204:=Bool.eq_false_iff.mpr c204
            have h206:=ite_false c204 h188
            refine TT.cond_false (x:=sub [1,1,1,1,1,1,0,1,0] B3) (y:=sub [1,1,1,1,1,1,0,1,1] B3) rfl c204 ?_
            refine TT.skip ?_
            refine TT.seq (x:=sub [1,1,1,1,1,1,1,0] B3) (y:=sub [1,1,1,1,1,1,1,1] B3) ?_
            refine TT.rg [0,1,2,3,4,5,6] [kq,kk,kp,kq,kp,kp,kp] rfl rfl ?_
            refine DL.qu 79 (.agg (Tm.ce a1 a1_2)) rfl (f_loadA (j:=3) ty_a25 ty_s25 rfl rfl rfl rfl) ?_
            obtain ⟨t207,h208,h209⟩:=bind_some h206
            refine DL.callF (G:=Value) (u:=fun g => .agg (Tm.ce t207 g)) (Q:=fun g M_ => (RowS ShTm M_ g (Tree.kids t207))) (A:=[(Value.ownBlock s166_v,.cells s166_c 25 (0,0)),(Value.ownBlock s169_v,.cells s169_c 25 (0,0)),(some b2,.cells ((Tm.ce a2 a2_2)) 25 (0,0)),(some b1,.cells ((Tm.ce a1 a1_2)) 25 (0,0))]) (J:=[]) (fun J210 => ((Value.ownBlock s166_v,.cells s166_c 25 (0,0)) :: (Value.ownBlock s169_v,.cells s169_c 25 (0,0)) :: (some b2,.cells ((Tm.ce a2 a2_2)) 25 (0,0)) :: (some b1,.cells ((Tm.ce a1 a1_2)) 25 (0,0)) :: J210)) (Nat.le_refl _) hE.nil (List.append_nil _).symm (fun _ => rfl) (by simp) (i:=1) rfl (Wn.none rfl) rfl rfl rfl rfl rfl rfl (args_val (vs:=[.agg (Tm.ce a1 a1_2)]) rfl) (fun w => enter17 _ w) (fun w hc hI => ref29_Order.ok h208 (M:=M) w hI hG hr_a1_2) ?_
            rintro t207_2 M210 J210 hE210 hx210 hr_t207_2
            show DL _ _ _ _ _ _ _ _ _ _ _ _ ((Value.ownBlock s166_v,.cells s166_c 25 (0,0)) :: (Value.ownBlock s169_v,.cells s169_c 25 (0,0)) :: (some b2,.cells ((Tm.ce a2 a2_2)) 25 (0,0)) :: (some b1,.cells ((Tm.ce a1 a1_2)) 25 (0,0)) :: J210)
            refine DL.mv 81 (a0_v) rfl rfl rfl ?_
            obtain ⟨t211,h212,h213⟩:=bind_some h209
            refine DL.qu 82 (.bool t211) rfl (f_callR rfl rfl (args_val (vs:=[.agg (Tm.ce t207 t207_2),a0_v]) rfl) (fun w => enter16 _ w) (fun w hc => terms_Can.val h212 (M:=M210) w (hE210.extJ (A:=[(Value.ownBlock s166_v,.cells s166_c 25 (0,0)),(Value.ownBlock s169_v,.cells s169_c 25 (0,0)),(some b2,.cells ((Tm.ce a2 a2_2)) 25 (0,0)),(some b1,.cells ((Tm.ce a1 a1_2)) 25 (0,0))]) hc rfl) (Glob.mono hG hx210) hr_t207_2 (RowS.mono hr_a0 hx210))) ?_
            refine DL.mv 83 (.bool t171) rfl rfl rfl ?_
            refine DL.pu 84 (.bool (t211 == t171)) rfl (p_eqb ty_u4 rfl rfl rfl) ?_
            refine DL.pu 6 (.bool (t211 == t171)) rfl (p_assign rfl rfl) ?_
            refine DL.nil ?_
            refine TT.settle (A:=[(Value.ownBlock s166_v,.cells s166_c 25 (0,0)),(Value.ownBlock s169_v,.cells s169_c 25 (0,0)),(some b2,.cells ((Tm.ce a2 a2_2)) 25 (0,0)),(some b1,.cells ((Tm.ce a1 a1_2)) 25 (0,0))]) (J:=J210) hE210 ?_
            intro I214 hE214 hxI214
            obtain rfl:=Option.some.inj h213
            exact retnE (rs:=[.tmp 6]) (vs:=[.bool (t211 == t171)]) hE214.base Tryd.func3 rfl rfl rfl (res_cons (ResV.tmp rfl) res_nil) rfl
          ·
           by_cases c190 : q178 = true
           ·
            have h191:=ite_true c190 h187
            refine DL.not (i:=6) rfl (Wn.yes c190 rfl rfl rfl rfl) rfl rfl ?_
            refine DL.not (i:=7) rfl (Wn.yes c190 rfl rfl rfl rfl) rfl rfl ?_
            refine DL.not (i:=8) rfl (Wn.yes c190 rfl rfl rfl rfl) rfl rfl ?_
            refine DL.not (i:=9) rfl (Wn.yes c190 rfl rfl rfl rfl) rfl rfl ?_
            refine DL.not (i:=10) rfl (Wn.undef rfl rfl rfl) rfl rfl ?_
            refine DL.not (i:=11) rfl (Wn.undef rfl rfl rfl) rfl rfl ?_
            refine DL.not (i:=12) rfl (Wn.undef rfl rfl rfl) rfl rfl ?_
            refine DL.not (i:=13) rfl (Wn.yes c190 rfl rfl rfl rfl) rfl rfl ?_
            refine DL.pu 78 (.bool true) rfl (p_pick_t c190 rfl rfl rfl) ?_
            obtain rfl:=Option.some.inj h191
            exact DL.weak J189 (Sub.cons rfl (Sub.cons rfl (Sub.cons rfl (Sub.cons rfl (Sub.nil _)))))
           ·
            replace c190:=Bool.eq_false_iff.mpr c190
            have h192:=ite_false c190 h187
            refine DL.quiet (v:=.agg (Tm.ce a2 a2_2)) rfl (Wn.no c190 rfl rfl rfl rfl) rfl rfl rfl (f_loadA (j:=2) ty_a25 ty_s25 rfl rfl rfl rfl) ?_
            refine DL.pure (v:=a0_v) rfl (Wn.no c190 rfl rfl rfl rfl) rfl rfl rfl (p_move rfl rfl) ?_
            obtain ⟨t193,h194,h195⟩:=bind_some h192
            refine DL.quiet (v:=.bool t193) rfl (Wn.no c190 rfl rfl rfl rfl) rfl rfl rfl (f_callR rfl rfl (args_val (vs:=[.agg (Tm.ce a2 a2_2),a0_v]) rfl) (fun w => enter16 _ w) (fun w hc => terms_Can.val h194 (M:=M) w (hE.ext hc) hG hr_a2_2 hr_a0)) ?_
            refine DL.pure (v:=.bool t193) rfl (Wn.no c190 rfl rfl rfl rfl) rfl rfl rfl (p_move rfl rfl) ?_
            obtain ⟨q197,h198,h199⟩:=bind_some h195
            refine DL.cut [(0,a0_v),(4,ptr b1 0),(9,.bool t171),(69,.bool q178),(77,.bool q197)] [14] ?_ (fun J200 => ?_)
            ·
             refine DL.pu 78 (.bool q197) rfl (p_pick_f c190 rfl rfl rfl) ?_
             obtain rfl:=Option.some.inj h199
             exact DL.weak J189 (Sub.cons rfl (Sub.cons rfl (Sub.cons rfl (Sub.cons rfl (Sub.nil _)))))
            ·
             by_cases c201 : t193 = true
             ·
              have h202:=ite_true c201 h198
              refine DL.pure (v:=.bool t171) rfl (Wn.yes c201 rfl rfl rfl rfl) rfl rfl rfl (p_move rfl rfl) ?_
              refine DL.pure (v:=.bool t174) rfl (Wn.yes c201 rfl rfl rfl rfl) rfl rfl rfl (p_move rfl rfl) ?_
              refine DL.pure (v:=.bool (!(t171 == t174))) rfl (Wn.yes c201 rfl rfl rfl rfl) rfl rfl rfl (p_neb ty_u4 rfl rfl rfl) ?_
              refine DL.pure (v:=.bool (!(t171 == t174))) rfl (Wn.no c190 rfl rfl rfl rfl) rfl rfl rfl (p_pick_t c201 rfl rfl rfl) ?_
              obtain rfl:=Option.some.inj h202
              exact DL.weak J200 (Sub.cons rfl (Sub.cons rfl (Sub.cons rfl (Sub.cons rfl (Sub.cons rfl (Sub.nil _))))))
             ·
              replace c201:=Bool.eq_false_iff.mpr c201
              have h203:=ite_false c201 h198
              refine DL.not (i:=10) rfl (Wn.no c201 rfl rfl rfl rfl) rfl rfl ?_
              refine DL.not (i:=11) rfl (Wn.no c201 rfl rfl rfl rfl) rfl rfl ?_
              refine DL.not (i:=12) rfl (Wn.no c201 rfl rfl rfl rfl) rfl rfl ?_
              refine DL.pure (v:=.bool false) rfl (Wn.no c190 rfl rfl rfl rfl) rfl rfl rfl (p_pick_f c201 rfl rfl rfl) ?_
              obtain rfl:=Option.some.inj h203
              exact DL.weak J200 (Sub.cons rfl (Sub.cons rfl (Sub.cons rfl (Sub.cons rfl (Sub.cons rfl (Sub.nil _))))))
         ·
          by_cases c182 : t171 = true
          ·
           have h183:=ite_true c182 h179
           refine DL.pure (v:=.bool t174) rfl (Wn.yes c182 rfl rfl rfl rfl) rfl rfl rfl (p_move rfl rfl) ?_
           refine DL.pure (v:=.bool (!t174)) rfl (Wn.yes c182 rfl rfl rfl rfl) rfl rfl rfl (p_not rfl rfl) ?_
           refine DL.pu 68 (.bool (!t174)) rfl (p_pick_t c182 rfl rfl rfl) ?_
           obtain rfl:=Option.some.inj h183
           exact DL.weak J181 (Sub.cons rfl (Sub.cons rfl (Sub.cons rfl (Sub.cons rfl (Sub.cons rfl (Sub.cons rfl (Sub.nil _)))))))
          ·
           replace c182:=Bool.eq_false_iff.mpr c182
           have h184:=ite_false c182 h179
           refine DL.not (i:=2) rfl (Wn.no c182 rfl rfl rfl rfl) rfl rfl ?_
           refine DL.not (i:=3) rfl (Wn.no c182 rfl rfl rfl rfl) rfl rfl ?_
           refine DL.pu 68 (.bool false) rfl (p_pick_f c182 rfl rfl rfl) ?_
           obtain rfl:=Option.some.inj h184
           exact DL.weak J181 (Sub.cons rfl (Sub.cons rfl (Sub.cons rfl (Sub.cons rfl (Sub.cons rfl (Sub.cons rfl (Sub.nil _)))))))
        ·
         obtain rfl:=Option.some.inj h157
         exact TT.weak (law29_TermsMeans.L0_ok a0 a0_v a1 a1_2 a2 a2_2 b1 b2 hE hG hr_a0 ((a0.length : Int).toNat + 1) 0 (.inr r159) h156 rfl) (Sub.cons rfl (Sub.cons rfl (Sub.cons rfl (Sub.cons rfl (Sub.nil _)))))
      ·
       by_cases c61 : q46 = true
       ·
        have h62:=ite_true c61 h58
        refine DL.not (i:=23) rfl (Wn.yes c61 rfl rfl rfl rfl) rfl rfl ?_
        refine DL.not (i:=24) rfl (Wn.yes c61 rfl rfl rfl rfl) rfl rfl ?_
        refine DL.not (i:=25) rfl (Wn.yes c61 rfl rfl rfl rfl) rfl rfl ?_
        refine DL.pu 39 (.bool true) rfl (p_pick_t c61 rfl rfl rfl) ?_
        obtain rfl:=Option.some.inj h62
        exact DL.weak J60 (Sub.cons rfl (Sub.cons rfl (Sub.cons rfl (Sub.cons rfl (Sub.nil _)))))
       ·
        replace c61:=Bool.eq_false_iff.mpr c61
        have h63:=ite_false c61 h58
        refine DL.quiet (v:=.agg (Tm.ce a2 a2_2)) rfl (Wn.no c61 rfl rfl rfl rfl) rfl rfl rfl (f_loadA (j:=0) ty_a25 ty_s25 rfl rfl rfl rfl) ?_
        obtain ⟨t64,h65,h66⟩:=bind_some h63
        refine DL.quiet (v:=.bool t64) rfl (Wn.no c61 rfl rfl rfl rfl) rfl rfl rfl (f_callR rfl rfl (args_val (vs:=[.agg (Tm.ce a2 a2_2)]) rfl) (fun w => enter15 _ w) (fun w hc => ref29_May.val h65 (M:=M) w (hE.ext hc) hr_a2_2)) ?_
        refine DL.pure (v:=.bool (!t64)) rfl (Wn.no c61 rfl rfl rfl rfl) rfl rfl rfl (p_not rfl rfl) ?_
        refine DL.pu 39 (.bool (!t64)) rfl (p_pick_f c61 rfl rfl rfl) ?_
        obtain rfl:=Option.some.inj h66
        exact DL.weak J60 (Sub.cons rfl (Sub.cons rfl (Sub.cons rfl (Sub.cons rfl (Sub.nil _)))))
     ·
      by_cases c50 : q35 = true
      ·
       have h51:=ite_true c50 h47
       refine DL.not (i:=18) rfl (Wn.yes c50 rfl rfl rfl rfl) rfl rfl ?_
       refine DL.not (i:=19) rfl (Wn.yes c50 rfl rfl rfl rfl) rfl rfl ?_
       refine DL.not (i:=20) rfl (Wn.yes c50 rfl rfl rfl rfl) rfl rfl ?_
       refine DL.pu 34 (.bool true) rfl (p_pick_t c50 rfl rfl rfl) ?_
       obtain rfl:=Option.some.inj h51
       exact DL.weak J49 (Sub.cons rfl (Sub.cons rfl (Sub.cons rfl (Sub.cons rfl (Sub.nil _)))))
      ·
       replace c50:=Bool.eq_false_iff.mpr c50
       have h52:=ite_false c50 h47
       refine DL.quiet (v:=.agg (Tm.ce a1 a1_2)) rfl (Wn.no c50 rfl rfl rfl rfl) rfl rfl rfl (f_loadA (j:=1) ty_a25 ty_s25 rfl rfl rfl rfl) ?_
       obtain ⟨t53,h54,h55⟩:=bind_some h52
       refine DL.quiet (v:=.bool t53) rfl (Wn.no c50 rfl rfl rfl rfl) rfl rfl rfl (f_callR rfl rfl (args_val (vs:=[.agg (Tm.ce a1 a1_2)]) rfl) (fun w => enter15 _ w) (fun w hc => ref29_May.val h54 (M:=M) w (hE.ext hc) hr_a1_2)) ?_
       refine DL.pure (v:=.bool (!t53)) rfl (Wn.no c50 rfl rfl rfl rfl) rfl rfl rfl (p_not rfl rfl) ?_
       refine DL.pu 34 (.bool (!t53)) rfl (p_pick_f c50 rfl rfl rfl) ?_
       obtain rfl:=Option.some.inj h55
       exact DL.weak J49 (Sub.cons rfl (Sub.cons rfl (Sub.cons rfl (Sub.cons rfl (Sub.nil _)))))
    ·
     by_cases c39 : q24 = true
     ·
      have h40:=ite_true c39 h36
      refine DL.not (i:=13) rfl (Wn.yes c39 rfl rfl rfl rfl) rfl rfl ?_
      refine DL.not (i:=14) rfl (Wn.yes c39 rfl rfl rfl rfl) rfl rfl ?_
      refine DL.not (i:=15) rfl (Wn.yes c39 rfl rfl rfl rfl) rfl rfl ?_
      refine DL.pu 29 (.bool true) rfl (p_pick_t c39 rfl rfl rfl) ?_
      obtain rfl:=Option.some.inj h40
      exact DL.weak J38 (Sub.cons rfl (Sub.cons rfl (Sub.cons rfl (Sub.cons rfl (Sub.nil _)))))
     ·
      replace c39:=Bool.eq_false_iff.mpr c39
      have h41:=ite_false c39 h36
      refine DL.pure (v:=a0_v) rfl (Wn.no c39 rfl rfl rfl rfl) rfl rfl rfl (p_move rfl rfl) ?_
      obtain ⟨t42,h43,h44⟩:=bind_some h41
      refine DL.quiet (v:=.bool t42) rfl (Wn.no c39 rfl rfl rfl rfl) rfl rfl rfl (f_callR rfl rfl (args_val (vs:=[a0_v]) rfl) (fun w => enter14 _ w) (fun w hc => law29_all.val h43 (M:=M) w (hE.ext hc) hr_a0)) ?_
      refine DL.pure (v:=.bool (!t42)) rfl (Wn.no c39 rfl rfl rfl rfl) rfl rfl rfl (p_not rfl rfl) ?_
      refine DL.pu 29 (.bool (!t42)) rfl (p_pick_f c39 rfl rfl rfl) ?_
      obtain rfl:=Option.some.inj h44
      exact DL.weak J38 (Sub.cons rfl (Sub.cons rfl (Sub.cons rfl (Sub.cons rfl (Sub.nil _)))))
   ·
    by_cases c28 : q13 = true
    ·
     have h29:=ite_true c28 h25
     refine DL.not (i:=8) rfl (Wn.yes c28 rfl rfl rfl rfl) rfl rfl ?_
     refine DL.not (i:=9) rfl (Wn.yes c28 rfl rfl rfl rfl) rfl rfl ?_
     refine DL.not (i:=10) rfl (Wn.yes c28 rfl rfl rfl rfl) rfl rfl ?_
     refine DL.pu 24 (.bool true) rfl (p_pick_t c28 rfl rfl rfl) ?_
     obtain rfl:=Option.some.inj h29
     exact DL.weak J27 (Sub.cons rfl (Sub.cons rfl (Sub.cons rfl (Sub.cons rfl (Sub.nil _)))))
    ·
     replace c28:=Bool.eq_false_iff.mpr c28
     have h30:=ite_false c28 h25
     refine DL.quiet (v:=.agg (Tm.ce a2 a2_2)) rfl (Wn.no c28 rfl rfl rfl rfl) rfl rfl rfl (f_loadA (j:=0) ty_a25 ty_s25 rfl rfl rfl rfl) ?_
     obtain ⟨t31,h32,h33⟩:=bind_some h30
     refine DL.quiet (v:=.int .i64 t31) rfl (Wn.no c28 rfl rfl rfl rfl) rfl rfl rfl (f_callR rfl rfl (args_val (vs:=[.agg (Tm.ce a2 a2_2),.int .i64 301]) rfl) (fun w => enter13 _ w) (fun w hc => ref29_Size.val h32 (M:=M) w (hE.ext hc) hr_a2_2)) ?_
     refine DL.pure (v:=.bool (decide (300 < t31))) rfl (Wn.no c28 rfl rfl rfl rfl) rfl rfl rfl (p_gtr rfl rfl rfl) ?_
     refine DL.pu 24 (.bool (decide (300 < t31))) rfl (p_pick_f c28 rfl rfl rfl) ?_
     obtain rfl:=Option.some.inj h33
     exact DL.weak J27 (Sub.cons rfl (Sub.cons rfl (Sub.cons rfl (Sub.cons rfl (Sub.nil _)))))
  ·
   by_cases c17 : t9 = true
   ·
    have h18:=ite_true c17 h14
    refine DL.not (i:=3) rfl (Wn.yes c17 rfl rfl rfl rfl) rfl rfl ?_
    refine DL.not (i:=4) rfl (Wn.yes c17 rfl rfl rfl rfl) rfl rfl ?_
    refine DL.not (i:=5) rfl (Wn.yes c17 rfl rfl rfl rfl) rfl rfl ?_
    refine DL.pu 19 (.bool true) rfl (p_pick_t c17 rfl rfl rfl) ?_
    obtain rfl:=Option.some.inj h18
    exact DL.weak J16 (Sub.cons rfl (Sub.cons rfl (Sub.cons rfl (Sub.cons rfl (Sub.nil _)))))
   ·
    replace c17:=Bool.eq_false_iff.mpr c17
    have h19:=ite_false c17 h14
    refine DL.quiet (v:=.agg (Tm.ce a1 a1_2)) rfl (Wn.no c17 rfl rfl rfl rfl) rfl rfl rfl (f_loadA (j:=1) ty_a25 ty_s25 rfl rfl rfl rfl) ?_
    obtain ⟨t20,h21,h22⟩:=bind_some h19
    refine DL.quiet (v:=.int .i64 t20) rfl (Wn.no c17 rfl rfl rfl rfl) rfl rfl rfl (f_callR rfl rfl (args_val (vs:=[.agg (Tm.ce a1 a1_2),.int .i64 301]) rfl) (fun w => enter13 _ w) (fun w hc => ref29_Size.val h21 (M:=M) w (hE.ext hc) hr_a1_2)) ?_
    refine DL.pure (v:=.bool (decide (300 < t20))) rfl (Wn.no c17 rfl rfl rfl rfl) rfl rfl rfl (p_gtr rfl rfl rfl) ?_
    refine DL.pu 19 (.bool (decide (300 < t20))) rfl (p_pick_f c17 rfl rfl rfl) ?_
    obtain rfl:=Option.some.inj h22
    exact DL.weak J16 (Sub.cons rfl (Sub.cons rfl (Sub.cons rfl (Sub.cons rfl (Sub.nil _)))))
theorem law29_TermsMeans.val {a0 : List Tm} {a1 : Tm} {a2 : Tm} {a0_v : Value} {a1_2 : Value} {a2_2 : Value} {r : Bool} (h : law29_TermsMeans.f a0 a1 a2 = some r) {M : Mem} (w : World) (hM : Ext M (heapOf w)) (hG : Glob M) (hr_a0 : RowS ShTm M a0_v a0) (hr_a1_2 : RowS ShTm M a1_2 (Tree.kids a1)) (hr_a2_2 : RowS ShTm M a2_2 (Tree.kids a2)) : Calls Tryd.prog 3 #[a0_v,.agg (Tm.ce a1 a1_2),.agg (Tm.ce a2 a2_2)] w fun e w' => e = .returned (.bool r) ∧ Below w.heap.size w w' :=
 calls_value (law29_TermsMeans.ok h w hM hG hr_a0 hr_a1_2 hr_a2_2)

end Go.Proofs.YtfbogkhgfaibbaaDoor
