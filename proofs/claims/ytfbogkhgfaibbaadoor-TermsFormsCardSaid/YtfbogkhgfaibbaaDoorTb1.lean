import Derived.Test.YtfbogkhgfaibbaaDoorTmX
import Derived.Test.YtfbogkhgfaibbaaDoorHw26
import Derived.Test.YtfbogkhgfaibbaaDoorTa8
namespace Go.Proofs.YtfbogkhgfaibbaaDoor
open Go Go.HW Go.RowKit
set_option linter.unusedVariables false
set_option linter.unusedSimpArgs false

theorem enter36 (args : Array Value) (w : World) : (callFunc 36 args).run Tryd.prog w = .ok (.enter 36 args) w:=by kernel_rfl
theorem enter37 (args : Array Value) (w : World) : (callFunc 37 args).run Tryd.prog w = .ok (.enter 37 args) w:=by kernel_rfl
theorem enter34 (args : Array Value) (w : World) : (callFunc 34 args).run Tryd.prog w = .ok (.enter 34 args) w:=by kernel_rfl
theorem enter16 (args : Array Value) (w : World) : (callFunc 16 args).run Tryd.prog w = .ok (.enter 16 args) w:=by kernel_rfl
theorem enter11 (args : Array Value) (w : World) : (callFunc 11 args).run Tryd.prog w = .ok (.enter 11 args) w:=by kernel_rfl
theorem ty_u4 (w : World) : (underlying 4).run Tryd.prog w = .ok (.bool) w:=by kernel_rfl
/-! ### escutcheon/terms.Can: function 16 -/
noncomputable def B16 : Code:=bodyOf Tryd.f16
def terms_Can.f (a0 : Tm) (a1 : List Tm) : Option (Bool):=(terms_May.f a0).bind fun t3 => (if t3 = true then ((terms_may.f a1).bind fun t13 => some t13) else (some false)).bind fun q7 => (if q7 = true then ((terms_learn.f a1).bind fun t24 => (terms_forms.f).bind fun _ => (terms_order.f (Tm.fuel a0) a0).bind fun t32 => (terms_canM.f t24 t32).bind fun t36 => some t36) else (some false)).bind fun q18 => some q18
set_option maxRecDepth 20000 in
theorem terms_Can.ok {a0 : Tm} {a1 : List Tm} {a0_2 : Value} {a1_v : Value} {r : Bool} (h : terms_Can.f a0 a1 = some r) {M : Mem} (w : World) (hM : Ext M (heapOf w)) (hG : Glob M) (hr_a0_2 : RowS ShTm M a0_2 (Tree.kids a0)) (hr_a1 : RowS ShTm M a1_v a1) : Calls Tryd.prog 16 #[.agg (Tm.ce a0 a0_2),a1_v] w (Post (fun u => u = .bool r) w):=by
 unfold terms_Can.f at h
 have hE:=Env.start hM
 refine calls_of_TT (N:=19) (S:=[(0,.agg (Tm.ce a0 a0_2)),(1,a1_v)]) (c:=B16) Tryd.func16 rfl rfl rfl (by simp) ?_
 show TT _ _ _ _ _ _ [.code (sub [] B16)] _ _
 refine TT.seq (x:=sub [0] B16) (y:=sub [1] B16) ?_
 refine TT.rg [0,1] [(.alloc,none),kp] rfl rfl ?_
 refine DL.new (ob:=.cells ((Tm.ce a0 a0_2)) 25) (mk:=fun b => ptr b 0) (i:=0) rfl (Wn.none rfl) rfl rfl rfl (f_box (v:=.agg (Tm.ce a0 a0_2)) rfl rfl) ?_
 intro b1 hb1
 refine DL.pu 4 (.bool false) rfl (p_assign rfl rfl) ?_
 refine DL.nil ?_
 refine TT.seq (x:=sub [1,0] B16) (y:=sub [1,1] B16) ?_
 refine TT.rgD [0,1,2,3,4,5,6,7,9,8,10,11,12,13,14] [0,1,3,7,15,31,63,127,255,127,511,2047,4095,8191,16383] [(.look,some 0),kq,kp,kp,kq,kp,kp,kp,kk,(.look,some 0),kk,kk,kq,kp,kp] rfl mixed (by kernel_rfl) ?_
 intro w2 hl2 hj2 hz2
 refine DL.look (v:=.agg (Tm.ce a0 a0_2)) (x:=0) (b:=b1) (i:=0) rfl (Wn.none rfl) rfl rfl rfl rfl rfl (List.mem_of_getElem? (i:=0) rfl) (b_loadA ty_a25 ty_s25 rfl rfl rfl) ?_
 obtain ⟨t3,h4,h5⟩:=bind_some h
 refine DL.qu 6 (.bool t3) rfl (f_callR rfl rfl (args_val (vs:=[.agg (Tm.ce a0 a0_2)]) rfl) (fun w => enter31 _ w) (fun w hc => terms_May.val h4 (M:=M) w (hE.ext hc) hr_a0_2)) ?_
 refine DL.mv 7 (.bool t3) rfl rfl rfl ?_
 obtain ⟨q7,h8,h9⟩:=bind_some h5
 refine DL.cut [(1,a1_v),(2,ptr b1 0),(10,.bool q7)] [6,7,9,8,10,11,12,13,14] ?_ (fun J10 => ?_)
 ·
  refine DL.mv 11 (.bool q7) rfl rfl rfl ?_
  obtain ⟨q18,h19,h20⟩:=bind_some h9
  refine DL.cutJ [(some b1,.cells ((Tm.ce a0 a0_2)) 25 (0,0))] M hE [(18,.bool q18)] [14] ?_ (fun J21 => ?_)
  ·
   intro M22 J22 hE22 hx22
   show DL _ _ _ _ _ _ _ _ _ _ _ _ ((some b1,.cells ((Tm.ce a0 a0_2)) 25 (0,0)) :: J22)
   refine DL.pu 4 (.bool q18) rfl (p_assign rfl rfl) ?_
   refine DL.nil' hl2 ?_
   refine TT.settle (A:=[(some b1,.cells ((Tm.ce a0 a0_2)) 25 (0,0))]) (J:=J22) hE22 ?_
   intro I40 hE40 hxI40
   obtain rfl:=Option.some.inj h20
   exact retnE (rs:=[.tmp 4]) (vs:=[.bool q18]) hE40.base Tryd.func16 rfl rfl rfl (res_cons (ResV.tmp rfl) res_nil) rfl
  ·
   by_cases c17 : q7 = true
   ·
    have h23:=ite_true c17 h19
    refine DL.pure (v:=a1_v) rfl (Wn.yes c17 rfl rfl rfl rfl) rfl rfl rfl (p_move rfl rfl) ?_
    refine DL.look (v:=.agg (Tm.ce a0 a0_2)) (x:=0) (b:=b1) (i:=9) rfl (Wn.yes c17 rfl rfl rfl rfl) rfl rfl rfl rfl rfl (List.mem_of_getElem? (i:=0) rfl) (b_loadA ty_a25 ty_s25 rfl rfl rfl) ?_
    obtain ⟨t24,h25,h26⟩:=bind_some h23
    refine DL.callF (G:=Nat) (u:=fun g => .map (some g)) (Q:=fun g M_ => (KMap ShTm M_ g t24)) (A:=[(some b1,.cells ((Tm.ce a0 a0_2)) 25 (0,0))]) (J:=[]) (fun J27 => ((some b1,.cells ((Tm.ce a0 a0_2)) 25 (0,0)) :: J27)) hl2.2.2.2 hE.nil (List.append_nil _).symm (fun _ => rfl) (by simp) (i:=8) rfl (Wn.yes c17 rfl rfl rfl rfl) rfl rfl rfl rfl rfl rfl (args_val (vs:=[a1_v]) rfl) (fun w => enter37 _ w) (fun w hc hI => terms_learn.ok h25 (M:=M) w hI hG hr_a1) ?_
    rintro t24_m M27 J27 hE27 hx27 hm_t24
    show DL _ _ _ _ _ _ _ _ _ _ _ _ ((some b1,.cells ((Tm.ce a0 a0_2)) 25 (0,0)) :: J27)
    obtain ⟨_,h29,h30⟩:=bind_some h26
    refine DL.callF (G:=Nat) (u:=fun g => .map (some g)) (Q:=fun g M_ => (M_ g = some FormsO)) (A:=[(some b1,.cells ((Tm.ce a0 a0_2)) 25 (0,0))]) (J:=J27) (fun J31 => ((some b1,.cells ((Tm.ce a0 a0_2)) 25 (0,0)) :: J31)) hl2.2.2.2 hE27 rfl (fun _ => rfl) (by simp) (i:=10) rfl (Wn.yes c17 rfl rfl rfl rfl) rfl rfl rfl rfl rfl rfl (args_val (vs:=[]) rfl) (fun w => enter40 _ w) (fun w hc hI => terms_forms.ok h29 (M:=M27) w hI ) ?_
    rintro t28_m M31 J31 hE31 hx31 hm_t28
    show DL _ _ _ _ _ _ _ _ _ _ _ _ ((some b1,.cells ((Tm.ce a0 a0_2)) 25 (0,0)) :: J31)
    obtain ⟨t32,h33,h34⟩:=bind_some h30
    refine DL.callF (G:=Value) (u:=fun g => .agg (Tm.ce t32 g)) (Q:=fun g M_ => (RowS ShTm M_ g (Tree.kids t32))) (A:=[(some b1,.cells ((Tm.ce a0 a0_2)) 25 (0,0))]) (J:=J31) (fun J35 => ((some b1,.cells ((Tm.ce a0 a0_2)) 25 (0,0)) :: J35)) hl2.2.2.2 hE31 rfl (fun _ => rfl) (by simp) (i:=11) rfl (Wn.yes c17 rfl rfl rfl rfl) rfl rfl rfl rfl rfl rfl (args_val (vs:=[.agg (Tm.ce a0 a0_2),.map (some t28_m)]) rfl) (fun w => enter39 _ w) (fun w hc hI => terms_order.ok h33 (M:=M31) w hI (Glob.mono hG (hx27.trans hx31)) (RowS.mono hr_a0_2 (hx27.trans hx31)) hm_t28) ?_
    rintro t32_2 M35 J35 hE35 hx35 hr_t32_2
    show DL _ _ _ _ _ _ _ _ _ _ _ _ ((some b1,.cells ((Tm.ce a0 a0_2)) 25 (0,0)) :: J35)
    obtain ⟨t36,h37,h38⟩:=bind_some h34
    refine DL.quiet (v:=.bool t36) rfl (Wn.yes c17 rfl rfl rfl rfl) rfl rfl rfl (f_callR rfl rfl (args_val (vs:=[.map (some t24_m),.agg (Tm.ce t32 t32_2)]) rfl) (fun w => enter38 _ w) (fun w hc => terms_canM.val h37 (M:=M35) w (hE35.extJ (A:=[(some b1,.cells ((Tm.ce a0 a0_2)) 25 (0,0))]) hc rfl) (Glob.mono hG ((hx27.trans hx31).trans hx35)) (KMap.mono hm_t24 (hx31.trans hx35)) hr_t32_2)) ?_
    refine DL.pu 18 (.bool t36) rfl (p_pick_t c17 rfl rfl rfl) ?_
    obtain rfl:=Option.some.inj h38
    exact DL.weak (J21 _ _ hE35 ((hx27.trans hx31).trans hx35)) (Sub.cons rfl (Sub.nil _))
   ·
    replace c17:=Bool.eq_false_iff.mpr c17
    have h39:=ite_false c17 h19
    refine DL.not (i:=7) rfl (Wn.no c17 rfl rfl rfl rfl) rfl rfl ?_
    refine DL.not (i:=9) rfl (Wn.no c17 rfl rfl rfl rfl) rfl rfl ?_
    refine DL.not (i:=8) rfl (Wn.no c17 rfl rfl rfl rfl) rfl rfl ?_
    refine DL.not (i:=10) rfl (Wn.no c17 rfl rfl rfl rfl) rfl rfl ?_
    refine DL.not (i:=11) rfl (Wn.no c17 rfl rfl rfl rfl) rfl rfl ?_
    refine DL.not (i:=12) rfl (Wn.no c17 rfl rfl rfl rfl) rfl rfl ?_
    refine DL.pu 18 (.bool false) rfl (p_pick_f c17 rfl rfl rfl) ?_
    obtain rfl:=Option.some.inj h39
    exact DL.weak (J21 _ _ hE.nil (Ext.refl _)) (Sub.cons rfl (Sub.nil _))
 ·
  by_cases c11 : t3 = true
  ·
   have h12:=ite_true c11 h8
   refine DL.pure (v:=a1_v) rfl (Wn.yes c11 rfl rfl rfl rfl) rfl rfl rfl (p_move rfl rfl) ?_
   obtain ⟨t13,h14,h15⟩:=bind_some h12
   refine DL.quiet (v:=.bool t13) rfl (Wn.yes c11 rfl rfl rfl rfl) rfl rfl rfl (f_callR rfl rfl (args_val (vs:=[a1_v]) rfl) (fun w => enter36 _ w) (fun w hc => terms_may.val h14 (M:=M) w (hE.ext hc) hr_a1)) ?_
   refine DL.pu 10 (.bool t13) rfl (p_pick_t c11 rfl rfl rfl) ?_
   obtain rfl:=Option.some.inj h15
   exact DL.weak J10 (Sub.cons rfl (Sub.cons rfl (Sub.cons rfl (Sub.nil _))))
  ·
   replace c11:=Bool.eq_false_iff.mpr c11
   have h16:=ite_false c11 h8
   refine DL.not (i:=3) rfl (Wn.no c11 rfl rfl rfl rfl) rfl rfl ?_
   refine DL.not (i:=4) rfl (Wn.no c11 rfl rfl rfl rfl) rfl rfl ?_
   refine DL.pu 10 (.bool false) rfl (p_pick_f c11 rfl rfl rfl) ?_
   obtain rfl:=Option.some.inj h16
   exact DL.weak J10 (Sub.cons rfl (Sub.cons rfl (Sub.cons rfl (Sub.nil _))))
theorem terms_Can.val {a0 : Tm} {a1 : List Tm} {a0_2 : Value} {a1_v : Value} {r : Bool} (h : terms_Can.f a0 a1 = some r) {M : Mem} (w : World) (hM : Ext M (heapOf w)) (hG : Glob M) (hr_a0_2 : RowS ShTm M a0_2 (Tree.kids a0)) (hr_a1 : RowS ShTm M a1_v a1) : Calls Tryd.prog 16 #[.agg (Tm.ce a0 a0_2),a1_v] w fun e w' => e = .returned (.bool r) ∧ Below w.heap.size w w' :=
 calls_value (terms_Can.ok h w hM hG hr_a0_2 hr_a1)

/-! ### escutcheon/escutcheonlaw29.known: function 11 -/
noncomputable def B11 : Code:=bodyOf Tryd.f11
def law29_known.f : Option (Bool):=(law29_term.f [115,101,97,108,40,115,49,44,115,50,41]).bind fun t1 => (law29_term.f [115,49]).bind fun t5 => (law29_term.f [112,117,98,108,105,99,40,115,49,41]).bind fun t12 => (law29_term.f [115,50]).bind fun t16 => (law29_term.f [115,50]).bind fun t23 => (terms_Can.f t23 [t1,t5]).bind fun t27 => (if t27 = true then ((law29_term.f [109,97,99,40,115,50,44,100,48,41]).bind fun t37 => (terms_Can.f t37 [t1,t5]).bind fun t41 => some t41) else (some false)).bind fun q31 => (if q31 = true then ((law29_term.f [115,51]).bind fun t52 => (terms_Can.f t52 [t1,t5]).bind fun t56 => some (!t56)) else (some false)).bind fun q46 => (if q46 = true then ((law29_term.f [115,104,97,114,101,100,40,115,49,44,115,50,41]).bind fun t67 => (terms_Can.f t67 [t12,t16]).bind fun t71 => some t71) else (some false)).bind fun q61 => (if q61 = true then ((law29_term.f [115,104,97,114,101,100,40,115,50,44,115,49,41]).bind fun t82 => (terms_Can.f t82 [t12,t16]).bind fun t86 => some t86) else (some false)).bind fun q76 => (if q76 = true then ((law29_term.f [115,49]).bind fun t97 => (terms_Can.f t97 [t12,t16]).bind fun t101 => some (!t101)) else (some false)).bind fun q91 => some q91
set_option maxRecDepth 20000 in
theorem law29_known.ok {r : Bool} (h : law29_known.f = some r) {M : Mem} (w : World) (hM : Ext M (heapOf w)) (hG : Glob M) : Calls Tryd.prog 11 #[] w (Post (fun u => u = .bool r) w):=by
 unfold law29_known.f at h
 have hE:=Env.start hM
 refine calls_of_TT (N:=39) (S:=[]) (c:=B11) Tryd.func11 rfl rfl rfl (by simp) ?_
 show TT _ _ _ _ _ _ [.code (sub [] B11)] _ _
 refine TT.seq (x:=sub [0] B11) (y:=sub [1] B11) ?_
 refine TT.rg [0] [kp] rfl rfl ?_
 refine DL.pu 0 (.bool false) rfl (p_assign rfl rfl) ?_
 refine DL.nil ?_
 refine TT.seq (x:=sub [1,0] B11) (y:=sub [1,1] B11) ?_
 refine TT.rg [0,1,2,3] [kk,kk,(.alloc,none),kp] rfl rfl ?_
 obtain ⟨t1,h2,h3⟩:=bind_some h
 refine DL.callF (G:=Value) (u:=fun g => .agg (Tm.ce t1 g)) (Q:=fun g M_ => (RowS ShTm M_ g (Tree.kids t1))) (A:=[]) (J:=[]) (fun J4 => (J4)) (Nat.le_refl _) hE.nil (List.append_nil _).symm (fun _ => rfl) (by simp) (i:=0) rfl (Wn.none rfl) rfl rfl rfl rfl rfl rfl (args_val (vs:=[str [115,101,97,108,40,115,49,44,115,50,41]]) rfl) (fun w => enter34 _ w) (fun w hc hI => law29_term.ok h2 (M:=M) w hI hG) ?_
 rintro t1_2 M4 J4 hE4 hx4 hr_t1_2
 show DL _ _ _ _ _ _ _ _ _ _ _ _ (J4)
 obtain ⟨t5,h6,h7⟩:=bind_some h3
 refine DL.callF (G:=Value) (u:=fun g => .agg (Tm.ce t5 g)) (Q:=fun g M_ => (RowS ShTm M_ g (Tree.kids t5))) (A:=[]) (J:=J4) (fun J8 => (J8)) (Nat.le_refl _) hE4 rfl (fun _ => rfl) (by simp) (i:=1) rfl (Wn.none rfl) rfl rfl rfl rfl rfl rfl (args_val (vs:=[str [115,49]]) rfl) (fun w => enter34 _ w) (fun w hc hI => law29_term.ok h6 (M:=M4) w hI (Glob.mono hG hx4)) ?_
 rintro t5_2 M8 J8 hE8 hx8 hr_t5_2
 show DL _ _ _ _ _ _ _ _ _ _ _ _ (J8)
 refine DL.newS (M:=M8) (s:=ShTm) (zs:=[t1,t5]) (cells:=[.int .i64 (Tm.kind t1),.int .i64 (Tm.num t1),t1_2,.int .i64 (Tm.kind t5),.int .i64 (Tm.num t5),t5_2]) (n:=2) rfl (by decide) rfl (fun i x hx => by match i,hx with | 0,hx => cases hx; exact (Tm.cl (t:=t1) (RowS.mono hr_t1_2 hx8)) | 1,hx => cases hx; exact (Tm.cl (t:=t5) hr_t5_2) | k + 2,hx => simp at hx) (i:=2) rfl (Wn.none rfl) rfl rfl rfl (f_buildS (n:=2) (vs:=[(0,.agg (Tm.ce t1 t1_2)),(1,.agg (Tm.ce t5 t5_2))]) elem22 rfl rfl (by kernel_rfl) rfl (args_val2 rfl)) ?_
 intro s10_v s10_c ho_s10
 refine DL.pu 1 (s10_v) rfl (p_assign rfl rfl) ?_
 refine DL.nil ?_
 refine TT.settle (A:=[(Value.ownBlock s10_v,.cells s10_c 25 (0,0))]) (J:=J8) hE8 ?_
 intro I11 hE11 hxI11
 refine TT.seq (x:=sub [1,1,0] B11) (y:=sub [1,1,1] B11) ?_
 refine TT.rg [0,1,2,3] [kk,kk,(.alloc,none),kp] rfl rfl ?_
 obtain ⟨t12,h13,h14⟩:=bind_some h7
 refine DL.callF (G:=Value) (u:=fun g => .agg (Tm.ce t12 g)) (Q:=fun g M_ => (RowS ShTm M_ g (Tree.kids t12))) (A:=[(Value.ownBlock s10_v,.cells s10_c 25 (0,0))]) (J:=[]) (fun J15 => ((Value.ownBlock s10_v,.cells s10_c 25 (0,0)) :: J15)) (Nat.le_refl _) hE11.nil (List.append_nil _).symm (fun _ => rfl) (by simp) (i:=0) rfl (Wn.none rfl) rfl rfl rfl rfl rfl rfl (args_val (vs:=[str [112,117,98,108,105,99,40,115,49,41]]) rfl) (fun w => enter34 _ w) (fun w hc hI => law29_term.ok h13 (M:=M8) w hI (Glob.mono hG (hx4.trans hx8))) ?_
 rintro t12_2 M15 J15 hE15 hx15 hr_t12_2
 show DL _ _ _ _ _ _ _ _ _ _ _ _ ((Value.ownBlock s10_v,.cells s10_c 25 (0,0)) :: J15)
 obtain ⟨t16,h17,h18⟩:=bind_some h14
 refine DL.callF (G:=Value) (u:=fun g => .agg (Tm.ce t16 g)) (Q:=fun g M_ => (RowS ShTm M_ g (Tree.kids t16))) (A:=[(Value.ownBlock s10_v,.cells s10_c 25 (0,0))]) (J:=J15) (fun J19 => ((Value.ownBlock s10_v,.cells s10_c 25 (0,0)) :: J19)) (Nat.le_refl _) hE15 rfl (fun _ => rfl) (by simp) (i:=1) rfl (Wn.none rfl) rfl rfl rfl rfl rfl rfl (args_val (vs:=[str [115,50]]) rfl) (fun w => enter34 _ w) (fun w hc hI => law29_term.ok h17 (M:=M15) w hI (Glob.mono hG ((hx4.trans hx8).trans hx15))) ?_
 rintro t16_2 M19 J19 hE19 hx19 hr_t16_2
 show DL _ _ _ _ _ _ _ _ _ _ _ _ ((Value.ownBlock s10_v,.cells s10_c 25 (0,0)) :: J19)
 refine DL.newS (M:=M19) (s:=ShTm) (zs:=[t12,t16]) (cells:=[.int .i64 (Tm.kind t12),.int .i64 (Tm.num t12),t12_2,.int .i64 (Tm.kind t16),.int .i64 (Tm.num t16),t16_2]) (n:=2) rfl (by decide) rfl (fun i x hx => by match i,hx with | 0,hx => cases hx; exact (Tm.cl (t:=t12) (RowS.mono hr_t12_2 hx19)) | 1,hx => cases hx; exact (Tm.cl (t:=t16) hr_t16_2) | k + 2,hx => simp at hx) (i:=2) rfl (Wn.none rfl) rfl rfl rfl (f_buildS (n:=2) (vs:=[(0,.agg (Tm.ce t12 t12_2)),(1,.agg (Tm.ce t16 t16_2))]) elem22 rfl rfl (by kernel_rfl) rfl (args_val2 rfl)) ?_
 intro s21_v s21_c ho_s21
 refine DL.pu 2 (s21_v) rfl (p_assign rfl rfl) ?_
 refine DL.nil ?_
 refine TT.settle (A:=[(Value.ownBlock s21_v,.cells s21_c 25 (0,0)),(Value.ownBlock s10_v,.cells s10_c 25 (0,0))]) (J:=J19) hE19 ?_
 intro I22 hE22 hxI22
 refine TT.seq (x:=sub [1,1,1,0] B11) (y:=sub [1,1,1,1] B11) ?_
 refine TT.rg [0,1,2,3,4,5,6,7,8,9,10,11,12,13,14,15,16,17,18,19,20,21,22,23,24,25,26,27,28,29,30] [kk,kp,kq,kp,kk,kp,kq,kp,kp,kk,kp,kq,kp,kp,kp,kk,kp,kq,kp,kp,kk,kp,kq,kp,kp,kk,kp,kq,kp,kp,kp] rfl rfl ?_
 obtain ⟨t23,h24,h25⟩:=bind_some h18
 refine DL.callF (G:=Value) (u:=fun g => .agg (Tm.ce t23 g)) (Q:=fun g M_ => (RowS ShTm M_ g (Tree.kids t23))) (A:=[(Value.ownBlock s21_v,.cells s21_c 25 (0,0)),(Value.ownBlock s10_v,.cells s10_c 25 (0,0))]) (J:=[]) (fun J26 => ((Value.ownBlock s21_v,.cells s21_c 25 (0,0)) :: (Value.ownBlock s10_v,.cells s10_c 25 (0,0)) :: J26)) (Nat.le_refl _) hE22.nil (List.append_nil _).symm (fun _ => rfl) (by simp) (i:=0) rfl (Wn.none rfl) rfl rfl rfl rfl rfl rfl (args_val (vs:=[str [115,50]]) rfl) (fun w => enter34 _ w) (fun w hc hI => law29_term.ok h24 (M:=M19) w hI (Glob.mono hG (((hx4.trans hx8).trans hx15).trans hx19))) ?_
 rintro t23_2 M26 J26 hE26 hx26 hr_t23_2
 show DL _ _ _ _ _ _ _ _ _ _ _ _ ((Value.ownBlock s21_v,.cells s21_c 25 (0,0)) :: (Value.ownBlock s10_v,.cells s10_c 25 (0,0)) :: J26)
 refine DL.mv 10 (s10_v) rfl rfl rfl ?_
 obtain ⟨t27,h28,h29⟩:=bind_some h25
 refine DL.qu 11 (.bool t27) rfl (f_callR rfl rfl (args_val (vs:=[.agg (Tm.ce t23 t23_2),s10_v]) rfl) (fun w => enter16 _ w) (fun w hc => terms_Can.val h28 (M:=heapOf w) w (Ext.refl _) (Glob.mono (Glob.mono hG ((((hx4.trans hx8).trans hx15).trans hx19).trans hx26)) (hE26.extJ (A:=[(Value.ownBlock s21_v,.cells s21_c 25 (0,0)),(Value.ownBlock s10_v,.cells s10_c 25 (0,0))]) hc rfl)) (RowS.mono hr_t23_2 (hE26.extJ (A:=[(Value.ownBlock s21_v,.cells s21_c 25 (0,0)),(Value.ownBlock s10_v,.cells s10_c 25 (0,0))]) hc rfl)) (OwnS.row (OwnS.mono ho_s10 ((hx15.trans hx19).trans hx26)) (hE26.extJ (A:=[(Value.ownBlock s21_v,.cells s21_c 25 (0,0)),(Value.ownBlock s10_v,.cells s10_c 25 (0,0))]) hc rfl) hc (i:=1) rfl))) ?_
 refine DL.mv 12 (.bool t27) rfl rfl rfl ?_
 obtain ⟨q31,h32,h33⟩:=bind_some h29
 refine DL.cutJ [(Value.ownBlock s21_v,.cells s21_c 25 (0,0)),(Value.ownBlock s10_v,.cells s10_c 25 (0,0))] M26 hE26 [(1,s10_v),(2,s21_v),(16,.bool q31)] [8,9,10,11,12,13,14,15,16,17,18,19,20,21,22,23,24,25,26,27,28,29,30] ?_ (fun J34 => ?_)
 ·
  intro M35 J35 hE35 hx35
  show DL _ _ _ _ _ _ _ _ _ _ _ _ ((Value.ownBlock s21_v,.cells s21_c 25 (0,0)) :: (Value.ownBlock s10_v,.cells s10_c 25 (0,0)) :: J35)
  refine DL.mv 17 (.bool q31) rfl rfl rfl ?_
  obtain ⟨q46,h47,h48⟩:=bind_some h33
  refine DL.cutJ [(Value.ownBlock s21_v,.cells s21_c 25 (0,0)),(Value.ownBlock s10_v,.cells s10_c 25 (0,0))] M35 hE35 [(2,s21_v),(22,.bool q46)] [14,15,16,17,18,19,20,21,22,23,24,25,26,27,28,29,30] ?_ (fun J49 => ?_)
  ·
   intro M50 J50 hE50 hx50
   show DL _ _ _ _ _ _ _ _ _ _ _ _ ((Value.ownBlock s21_v,.cells s21_c 25 (0,0)) :: (Value.ownBlock s10_v,.cells s10_c 25 (0,0)) :: J50)
   refine DL.mv 23 (.bool q46) rfl rfl rfl ?_
   obtain ⟨q61,h62,h63⟩:=bind_some h48
   refine DL.cutJ [(Value.ownBlock s21_v,.cells s21_c 25 (0,0)),(Value.ownBlock s10_v,.cells s10_c 25 (0,0))] M50 hE50 [(2,s21_v),(27,.bool q61)] [19,20,21,22,23,24,25,26,27,28,29,30] ?_ (fun J64 => ?_)
   ·
    intro M65 J65 hE65 hx65
    show DL _ _ _ _ _ _ _ _ _ _ _ _ ((Value.ownBlock s21_v,.cells s21_c 25 (0,0)) :: (Value.ownBlock s10_v,.cells s10_c 25 (0,0)) :: J65)
    refine DL.mv 28 (.bool q61) rfl rfl rfl ?_
    obtain ⟨q76,h77,h78⟩:=bind_some h63
    refine DL.cutJ [(Value.ownBlock s21_v,.cells s21_c 25 (0,0)),(Value.ownBlock s10_v,.cells s10_c 25 (0,0))] M65 hE65 [(2,s21_v),(32,.bool q76)] [24,25,26,27,28,29,30] ?_ (fun J79 => ?_)
    ·
     intro M80 J80 hE80 hx80
     show DL _ _ _ _ _ _ _ _ _ _ _ _ ((Value.ownBlock s21_v,.cells s21_c 25 (0,0)) :: (Value.ownBlock s10_v,.cells s10_c 25 (0,0)) :: J80)
     refine DL.mv 33 (.bool q76) rfl rfl rfl ?_
     obtain ⟨q91,h92,h93⟩:=bind_some h78
     refine DL.cutJ [(Value.ownBlock s21_v,.cells s21_c 25 (0,0)),(Value.ownBlock s10_v,.cells s10_c 25 (0,0))] M80 hE80 [(38,.bool q91)] [30] ?_ (fun J94 => ?_)
     ·
      intro M95 J95 hE95 hx95
      show DL _ _ _ _ _ _ _ _ _ _ _ _ ((Value.ownBlock s21_v,.cells s21_c 25 (0,0)) :: (Value.ownBlock s10_v,.cells s10_c 25 (0,0)) :: J95)
      refine DL.pu 0 (.bool q91) rfl (p_assign rfl rfl) ?_
      refine DL.nil ?_
      refine TT.settle (A:=[(Value.ownBlock s21_v,.cells s21_c 25 (0,0)),(Value.ownBlock s10_v,.cells s10_c 25 (0,0))]) (J:=J95) hE95 ?_
      intro I105 hE105 hxI105
      obtain rfl:=Option.some.inj h93
      exact retnE (rs:=[.tmp 0]) (vs:=[.bool q91]) hE105.base Tryd.func11 rfl rfl rfl (res_cons (ResV.tmp rfl) res_nil) rfl
     ·
      by_cases c90 : q76 = true
      ·
       have h96:=ite_true c90 h92
       obtain ⟨t97,h98,h99⟩:=bind_some h96
       refine DL.callF (G:=Value) (u:=fun g => .agg (Tm.ce t97 g)) (Q:=fun g M_ => (RowS ShTm M_ g (Tree.kids t97))) (A:=[(Value.ownBlock s21_v,.cells s21_c 25 (0,0)),(Value.ownBlock s10_v,.cells s10_c 25 (0,0))]) (J:=J80) (fun J100 => ((Value.ownBlock s21_v,.cells s21_c 25 (0,0)) :: (Value.ownBlock s10_v,.cells s10_c 25 (0,0)) :: J100)) (Nat.le_refl _) hE80 rfl (fun _ => rfl) (by simp) (i:=25) rfl (Wn.yes c90 rfl rfl rfl rfl) rfl rfl rfl rfl rfl rfl (args_val (vs:=[str [115,49]]) rfl) (fun w => enter34 _ w) (fun w hc hI => law29_term.ok h98 (M:=M80) w hI (Glob.mono hG ((((((((hx4.trans hx8).trans hx15).trans hx19).trans hx26).trans hx35).trans hx50).trans hx65).trans hx80))) ?_
       rintro t97_2 M100 J100 hE100 hx100 hr_t97_2
       show DL _ _ _ _ _ _ _ _ _ _ _ _ ((Value.ownBlock s21_v,.cells s21_c 25 (0,0)) :: (Value.ownBlock s10_v,.cells s10_c 25 (0,0)) :: J100)
       refine DL.pure (v:=s21_v) rfl (Wn.yes c90 rfl rfl rfl rfl) rfl rfl rfl (p_move rfl rfl) ?_
       obtain ⟨t101,h102,h103⟩:=bind_some h99
       refine DL.quiet (v:=.bool t101) rfl (Wn.yes c90 rfl rfl rfl rfl) rfl rfl rfl (f_callR rfl rfl (args_val (vs:=[.agg (Tm.ce t97 t97_2),s21_v]) rfl) (fun w => enter16 _ w) (fun w hc => terms_Can.val h102 (M:=heapOf w) w (Ext.refl _) (Glob.mono (Glob.mono hG (((((((((hx4.trans hx8).trans hx15).trans hx19).trans hx26).trans hx35).trans hx50).trans hx65).trans hx80).trans hx100)) (hE100.extJ (A:=[(Value.ownBlock s21_v,.cells s21_c 25 (0,0)),(Value.ownBlock s10_v,.cells s10_c 25 (0,0))]) hc rfl)) (RowS.mono hr_t97_2 (hE100.extJ (A:=[(Value.ownBlock s21_v,.cells s21_c 25 (0,0)),(Value.ownBlock s10_v,.cells s10_c 25 (0,0))]) hc rfl)) (OwnS.row (OwnS.mono ho_s21 (((((hx26.trans hx35).trans hx50).trans hx65).trans hx80).trans hx100)) (hE100.extJ (A:=[(Value.ownBlock s21_v,.cells s21_c 25 (0,0)),(Value.ownBlock s10_v,.cells s10_c 25 (0,0))]) hc rfl) hc (i:=0) rfl))) ?_
       refine DL.pure (v:=.bool (!t101)) rfl (Wn.yes c90 rfl rfl rfl rfl) rfl rfl rfl (p_not rfl rfl) ?_
       refine DL.pu 38 (.bool (!t101)) rfl (p_pick_t c90 rfl rfl rfl) ?_
       obtain rfl:=Option.some.inj h103
       exact DL.weak (J94 _ _ hE100 hx100) (Sub.cons rfl (Sub.nil _))
      ·
       replace c90:=Bool.eq_false_iff.mpr c90
       have h104:=ite_false c90 h92
       refine DL.not (i:=25) rfl (Wn.no c90 rfl rfl rfl rfl) rfl rfl ?_
       refine DL.not (i:=26) rfl (Wn.no c90 rfl rfl rfl rfl) rfl rfl ?_
       refine DL.not (i:=27) rfl (Wn.no c90 rfl rfl rfl rfl) rfl rfl ?_
       refine DL.not (i:=28) rfl (Wn.no c90 rfl rfl rfl rfl) rfl rfl ?_
       refine DL.pu 38 (.bool false) rfl (p_pick_f c90 rfl rfl rfl) ?_
       obtain rfl:=Option.some.inj h104
       exact DL.weak (J94 _ _ hE80 (Ext.refl _)) (Sub.cons rfl (Sub.nil _))
    ·
     by_cases c75 : q61 = true
     ·
      have h81:=ite_true c75 h77
      obtain ⟨t82,h83,h84⟩:=bind_some h81
      refine DL.callF (G:=Value) (u:=fun g => .agg (Tm.ce t82 g)) (Q:=fun g M_ => (RowS ShTm M_ g (Tree.kids t82))) (A:=[(Value.ownBlock s21_v,.cells s21_c 25 (0,0)),(Value.ownBlock s10_v,.cells s10_c 25 (0,0))]) (J:=J65) (fun J85 => ((Value.ownBlock s21_v,.cells s21_c 25 (0,0)) :: (Value.ownBlock s10_v,.cells s10_c 25 (0,0)) :: J85)) (Nat.le_refl _) hE65 rfl (fun _ => rfl) (by simp) (i:=20) rfl (Wn.yes c75 rfl rfl rfl rfl) rfl rfl rfl rfl rfl rfl (args_val (vs:=[str [115,104,97,114,101,100,40,115,50,44,115,49,41]]) rfl) (fun w => enter34 _ w) (fun w hc hI => law29_term.ok h83 (M:=M65) w hI (Glob.mono hG (((((((hx4.trans hx8).trans hx15).trans hx19).trans hx26).trans hx35).trans hx50).trans hx65))) ?_
      rintro t82_2 M85 J85 hE85 hx85 hr_t82_2
      show DL _ _ _ _ _ _ _ _ _ _ _ _ ((Value.ownBlock s21_v,.cells s21_c 25 (0,0)) :: (Value.ownBlock s10_v,.cells s10_c 25 (0,0)) :: J85)
      refine DL.pure (v:=s21_v) rfl (Wn.yes c75 rfl rfl rfl rfl) rfl rfl rfl (p_move rfl rfl) ?_
      obtain ⟨t86,h87,h88⟩:=bind_some h84
      refine DL.quiet (v:=.bool t86) rfl (Wn.yes c75 rfl rfl rfl rfl) rfl rfl rfl (f_callR rfl rfl (args_val (vs:=[.agg (Tm.ce t82 t82_2),s21_v]) rfl) (fun w => enter16 _ w) (fun w hc => terms_Can.val h87 (M:=heapOf w) w (Ext.refl _) (Glob.mono (Glob.mono hG ((((((((hx4.trans hx8).trans hx15).trans hx19).trans hx26).trans hx35).trans hx50).trans hx65).trans hx85)) (hE85.extJ (A:=[(Value.ownBlock s21_v,.cells s21_c 25 (0,0)),(Value.ownBlock s10_v,.cells s10_c 25 (0,0))]) hc rfl)) (RowS.mono hr_t82_2 (hE85.extJ (A:=[(Value.ownBlock s21_v,.cells s21_c 25 (0,0)),(Value.ownBlock s10_v,.cells s10_c 25 (0,0))]) hc rfl)) (OwnS.row (OwnS.mono ho_s21 ((((hx26.trans hx35).trans hx50).trans hx65).trans hx85)) (hE85.extJ (A:=[(Value.ownBlock s21_v,.cells s21_c 25 (0,0)),(Value.ownBlock s10_v,.cells s10_c 25 (0,0))]) hc rfl) hc (i:=0) rfl))) ?_
      refine DL.pu 32 (.bool t86) rfl (p_pick_t c75 rfl rfl rfl) ?_
      obtain rfl:=Option.some.inj h88
      exact DL.weak (J79 _ _ hE85 hx85) (Sub.cons rfl (Sub.cons rfl (Sub.nil _)))
     ·
      replace c75:=Bool.eq_false_iff.mpr c75
      have h89:=ite_false c75 h77
      refine DL.not (i:=20) rfl (Wn.no c75 rfl rfl rfl rfl) rfl rfl ?_
      refine DL.not (i:=21) rfl (Wn.no c75 rfl rfl rfl rfl) rfl rfl ?_
      refine DL.not (i:=22) rfl (Wn.no c75 rfl rfl rfl rfl) rfl rfl ?_
      refine DL.pu 32 (.bool false) rfl (p_pick_f c75 rfl rfl rfl) ?_
      obtain rfl:=Option.some.inj h89
      exact DL.weak (J79 _ _ hE65 (Ext.refl _)) (Sub.cons rfl (Sub.cons rfl (Sub.nil _)))
   ·
    by_cases c60 : q46 = true
    ·
     have h66:=ite_true c60 h62
     obtain ⟨t67,h68,h69⟩:=bind_some h66
     refine DL.callF (G:=Value) (u:=fun g => .agg (Tm.ce t67 g)) (Q:=fun g M_ => (RowS ShTm M_ g (Tree.kids t67))) (A:=[(Value.ownBlock s21_v,.cells s21_c 25 (0,0)),(Value.ownBlock s10_v,.cells s10_c 25 (0,0))]) (J:=J50) (fun J70 => ((Value.ownBlock s21_v,.cells s21_c 25 (0,0)) :: (Value.ownBlock s10_v,.cells s10_c 25 (0,0)) :: J70)) (Nat.le_refl _) hE50 rfl (fun _ => rfl) (by simp) (i:=15) rfl (Wn.yes c60 rfl rfl rfl rfl) rfl rfl rfl rfl rfl rfl (args_val (vs:=[str [115,104,97,114,101,100,40,115,49,44,115,50,41]]) rfl) (fun w => enter34 _ w) (fun w hc hI => law29_term.ok h68 (M:=M50) w hI (Glob.mono hG ((((((hx4.trans hx8).trans hx15).trans hx19).trans hx26).trans hx35).trans hx50))) ?_
     rintro t67_2 M70 J70 hE70 hx70 hr_t67_2
     show DL _ _ _ _ _ _ _ _ _ _ _ _ ((Value.ownBlock s21_v,.cells s21_c 25 (0,0)) :: (Value.ownBlock s10_v,.cells s10_c 25 (0,0)) :: J70)
     refine DL.pure (v:=s21_v) rfl (Wn.yes c60 rfl rfl rfl rfl) rfl rfl rfl (p_move rfl rfl) ?_
     obtain ⟨t71,h72,h73⟩:=bind_some h69
     refine DL.quiet (v:=.bool t71) rfl (Wn.yes c60 rfl rfl rfl rfl) rfl rfl rfl (f_callR rfl rfl (args_val (vs:=[.agg (Tm.ce t67 t67_2),s21_v]) rfl) (fun w => enter16 _ w) (fun w hc => terms_Can.val h72 (M:=heapOf w) w (Ext.refl _) (Glob.mono (Glob.mono hG (((((((hx4.trans hx8).trans hx15).trans hx19).trans hx26).trans hx35).trans hx50).trans hx70)) (hE70.extJ (A:=[(Value.ownBlock s21_v,.cells s21_c 25 (0,0)),(Value.ownBlock s10_v,.cells s10_c 25 (0,0))]) hc rfl)) (RowS.mono hr_t67_2 (hE70.extJ (A:=[(Value.ownBlock s21_v,.cells s21_c 25 (0,0)),(Value.ownBlock s10_v,.cells s10_c 25 (0,0))]) hc rfl)) (OwnS.row (OwnS.mono ho_s21 (((hx26.trans hx35).trans hx50).trans hx70)) (hE70.extJ (A:=[(Value.ownBlock s21_v,.cells s21_c 25 (0,0)),(Value.ownBlock s10_v,.cells s10_c 25 (0,0))]) hc rfl) hc (i:=0) rfl))) ?_
     refine DL.pu 27 (.bool t71) rfl (p_pick_t c60 rfl rfl rfl) ?_
     obtain rfl:=Option.some.inj h73
     exact DL.weak (J64 _ _ hE70 hx70) (Sub.cons rfl (Sub.cons rfl (Sub.nil _)))
    ·
     replace c60:=Bool.eq_false_iff.mpr c60
     have h74:=ite_false c60 h62
     refine DL.not (i:=15) rfl (Wn.no c60 rfl rfl rfl rfl) rfl rfl ?_
     refine DL.not (i:=16) rfl (Wn.no c60 rfl rfl rfl rfl) rfl rfl ?_
     refine DL.not (i:=17) rfl (Wn.no c60 rfl rfl rfl rfl) rfl rfl ?_
     refine DL.pu 27 (.bool false) rfl (p_pick_f c60 rfl rfl rfl) ?_
     obtain rfl:=Option.some.inj h74
     exact DL.weak (J64 _ _ hE50 (Ext.refl _)) (Sub.cons rfl (Sub.cons rfl (Sub.nil _)))
  ·
   by_cases c45 : q31 = true
   ·
    have h51:=ite_true c45 h47
    obtain ⟨t52,h53,h54⟩:=bind_some h51
    refine DL.callF (G:=Value) (u:=fun g => .agg (Tm.ce t52 g)) (Q:=fun g M_ => (RowS ShTm M_ g (Tree.kids t52))) (A:=[(Value.ownBlock s21_v,.cells s21_c 25 (0,0)),(Value.ownBlock s10_v,.cells s10_c 25 (0,0))]) (J:=J35) (fun J55 => ((Value.ownBlock s21_v,.cells s21_c 25 (0,0)) :: (Value.ownBlock s10_v,.cells s10_c 25 (0,0)) :: J55)) (Nat.le_refl _) hE35 rfl (fun _ => rfl) (by simp) (i:=9) rfl (Wn.yes c45 rfl rfl rfl rfl) rfl rfl rfl rfl rfl rfl (args_val (vs:=[str [115,51]]) rfl) (fun w => enter34 _ w) (fun w hc hI => law29_term.ok h53 (M:=M35) w hI (Glob.mono hG (((((hx4.trans hx8).trans hx15).trans hx19).trans hx26).trans hx35))) ?_
    rintro t52_2 M55 J55 hE55 hx55 hr_t52_2
    show DL _ _ _ _ _ _ _ _ _ _ _ _ ((Value.ownBlock s21_v,.cells s21_c 25 (0,0)) :: (Value.ownBlock s10_v,.cells s10_c 25 (0,0)) :: J55)
    refine DL.pure (v:=s10_v) rfl (Wn.yes c45 rfl rfl rfl rfl) rfl rfl rfl (p_move rfl rfl) ?_
    obtain ⟨t56,h57,h58⟩:=bind_some h54
    refine DL.quiet (v:=.bool t56) rfl (Wn.yes c45 rfl rfl rfl rfl) rfl rfl rfl (f_callR rfl rfl (args_val (vs:=[.agg (Tm.ce t52 t52_2),s10_v]) rfl) (fun w => enter16 _ w) (fun w hc => terms_Can.val h57 (M:=heapOf w) w (Ext.refl _) (Glob.mono (Glob.mono hG ((((((hx4.trans hx8).trans hx15).trans hx19).trans hx26).trans hx35).trans hx55)) (hE55.extJ (A:=[(Value.ownBlock s21_v,.cells s21_c 25 (0,0)),(Value.ownBlock s10_v,.cells s10_c 25 (0,0))]) hc rfl)) (RowS.mono hr_t52_2 (hE55.extJ (A:=[(Value.ownBlock s21_v,.cells s21_c 25 (0,0)),(Value.ownBlock s10_v,.cells s10_c 25 (0,0))]) hc rfl)) (OwnS.row (OwnS.mono ho_s10 ((((hx15.trans hx19).trans hx26).trans hx35).trans hx55)) (hE55.extJ (A:=[(Value.ownBlock s21_v,.cells s21_c 25 (0,0)),(Value.ownBlock s10_v,.cells s10_c 25 (0,0))]) hc rfl) hc (i:=1) rfl))) ?_
    refine DL.pure (v:=.bool (!t56)) rfl (Wn.yes c45 rfl rfl rfl rfl) rfl rfl rfl (p_not rfl rfl) ?_
    refine DL.pu 22 (.bool (!t56)) rfl (p_pick_t c45 rfl rfl rfl) ?_
    obtain rfl:=Option.some.inj h58
    exact DL.weak (J49 _ _ hE55 hx55) (Sub.cons rfl (Sub.cons rfl (Sub.nil _)))
   ·
    replace c45:=Bool.eq_false_iff.mpr c45
    have h59:=ite_false c45 h47
    refine DL.not (i:=9) rfl (Wn.no c45 rfl rfl rfl rfl) rfl rfl ?_
    refine DL.not (i:=10) rfl (Wn.no c45 rfl rfl rfl rfl) rfl rfl ?_
    refine DL.not (i:=11) rfl (Wn.no c45 rfl rfl rfl rfl) rfl rfl ?_
    refine DL.not (i:=12) rfl (Wn.no c45 rfl rfl rfl rfl) rfl rfl ?_
    refine DL.pu 22 (.bool false) rfl (p_pick_f c45 rfl rfl rfl) ?_
    obtain rfl:=Option.some.inj h59
    exact DL.weak (J49 _ _ hE35 (Ext.refl _)) (Sub.cons rfl (Sub.cons rfl (Sub.nil _)))
 ·
  by_cases c30 : t27 = true
  ·
   have h36:=ite_true c30 h32
   obtain ⟨t37,h38,h39⟩:=bind_some h36
   refine DL.callF (G:=Value) (u:=fun g => .agg (Tm.ce t37 g)) (Q:=fun g M_ => (RowS ShTm M_ g (Tree.kids t37))) (A:=[(Value.ownBlock s21_v,.cells s21_c 25 (0,0)),(Value.ownBlock s10_v,.cells s10_c 25 (0,0))]) (J:=J26) (fun J40 => ((Value.ownBlock s21_v,.cells s21_c 25 (0,0)) :: (Value.ownBlock s10_v,.cells s10_c 25 (0,0)) :: J40)) (Nat.le_refl _) hE26 rfl (fun _ => rfl) (by simp) (i:=4) rfl (Wn.yes c30 rfl rfl rfl rfl) rfl rfl rfl rfl rfl rfl (args_val (vs:=[str [109,97,99,40,115,50,44,100,48,41]]) rfl) (fun w => enter34 _ w) (fun w hc hI => law29_term.ok h38 (M:=M26) w hI (Glob.mono hG ((((hx4.trans hx8).trans hx15).trans hx19).trans hx26))) ?_
   rintro t37_2 M40 J40 hE40 hx40 hr_t37_2
   show DL _ _ _ _ _ _ _ _ _ _ _ _ ((Value.ownBlock s21_v,.cells s21_c 25 (0,0)) :: (Value.ownBlock s10_v,.cells s10_c 25 (0,0)) :: J40)
   refine DL.pure (v:=s10_v) rfl (Wn.yes c30 rfl rfl rfl rfl) rfl rfl rfl (p_move rfl rfl) ?_
   obtain ⟨t41,h42,h43⟩:=bind_some h39
   refine DL.quiet (v:=.bool t41) rfl (Wn.yes c30 rfl rfl rfl rfl) rfl rfl rfl (f_callR rfl rfl (args_val (vs:=[.agg (Tm.ce t37 t37_2),s10_v]) rfl) (fun w => enter16 _ w) (fun w hc => terms_Can.val h42 (M:=heapOf w) w (Ext.refl _) (Glob.mono (Glob.mono hG (((((hx4.trans hx8).trans hx15).trans hx19).trans hx26).trans hx40)) (hE40.extJ (A:=[(Value.ownBlock s21_v,.cells s21_c 25 (0,0)),(Value.ownBlock s10_v,.cells s10_c 25 (0,0))]) hc rfl)) (RowS.mono hr_t37_2 (hE40.extJ (A:=[(Value.ownBlock s21_v,.cells s21_c 25 (0,0)),(Value.ownBlock s10_v,.cells s10_c 25 (0,0))]) hc rfl)) (OwnS.row (OwnS.mono ho_s10 (((hx15.trans hx19).trans hx26).trans hx40)) (hE40.extJ (A:=[(Value.ownBlock s21_v,.cells s21_c 25 (0,0)),(Value.ownBlock s10_v,.cells s10_c 25 (0,0))]) hc rfl) hc (i:=1) rfl))) ?_
   refine DL.pu 16 (.bool t41) rfl (p_pick_t c30 rfl rfl rfl) ?_
   obtain rfl:=Option.some.inj h43
   exact DL.weak (J34 _ _ hE40 hx40) (Sub.cons rfl (Sub.cons rfl (Sub.cons rfl (Sub.nil _))))
  ·
   replace c30:=Bool.eq_false_iff.mpr c30
   have h44:=ite_false c30 h32
   refine DL.not (i:=4) rfl (Wn.no c30 rfl rfl rfl rfl) rfl rfl ?_
   refine DL.not (i:=5) rfl (Wn.no c30 rfl rfl rfl rfl) rfl rfl ?_
   refine DL.not (i:=6) rfl (Wn.no c30 rfl rfl rfl rfl) rfl rfl ?_
   refine DL.pu 16 (.bool false) rfl (p_pick_f c30 rfl rfl rfl) ?_
   obtain rfl:=Option.some.inj h44
   exact DL.weak (J34 _ _ hE26 (Ext.refl _)) (Sub.cons rfl (Sub.cons rfl (Sub.cons rfl (Sub.nil _))))
theorem law29_known.val {r : Bool} (h : law29_known.f = some r) {M : Mem} (w : World) (hM : Ext M (heapOf w)) (hG : Glob M) : Calls Tryd.prog 11 #[] w fun e w' => e = .returned (.bool r) ∧ Below w.heap.size w w' :=
 calls_value (law29_known.ok h w hM hG)

/-! ### escutcheon/escutcheonlaw29.TermsMakes$1: function 21 -/
/-! ### escutcheon/escutcheonlaw29.TermsKeeps: function 4 -/
/-! ### escutcheon/escutcheonlaw29.TermsMeans: function 3 -/
end Go.Proofs.YtfbogkhgfaibbaaDoor
