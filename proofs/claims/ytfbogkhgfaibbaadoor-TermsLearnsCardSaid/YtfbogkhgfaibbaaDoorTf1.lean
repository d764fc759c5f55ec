import Derived.Test.YtfbogkhgfaibbaaDoorTmKeys6
import Derived.Test.YtfbogkhgfaibbaaDoorTb1
namespace Go.Proofs.YtfbogkhgfaibbaaDoor
open Go Go.HW Go.RowKit
set_option linter.unusedVariables false
set_option linter.unusedSimpArgs false

theorem enter43 (args : Array Value) (w : World) : (callFunc 43 args).run Tryd.prog w = .ok (.enter 43 args) w:=by kernel_rfl
theorem enter42 (args : Array Value) (w : World) : (callFunc 42 args).run Tryd.prog w = .ok (.enter 42 args) w:=by kernel_rfl
theorem enter23 (args : Array Value) (w : World) : (callFunc 23 args).run Tryd.prog w = .ok (.enter 23 args) w:=by kernel_rfl
theorem enter24 (args : Array Value) (w : World) : (callFunc 24 args).run Tryd.prog w = .ok (.enter 24 args) w:=by kernel_rfl
theorem enter26 (args : Array Value) (w : World) : (callFunc 26 args).run Tryd.prog w = .ok (.enter 26 args) w:=by kernel_rfl

/-! ### escutcheon/terms.Learn: function 23 -/
noncomputable def B23 : Code:=bodyOf Tryd.f23
def terms_Learn.L0 (t7 : KM) (t16 : List (List UInt8)) : Nat → (List Tm) → Int → Option (List Tm)
 | 0,_,_ => none
 | k + 1,y_22,x17_23 => if (decide (x17_23 < (t16.length : Int))) = true then (req (0 ≤ x17_23) (req (x17_23 < (t16.length : Int)) (nm (kgetT t7 (t16.getD x17_23.toNat [])) fun t109 => (terms_forms.f).bind fun _ => (terms_order.f (Tm.fuel t109) t109).bind fun t116 => req (y_22.length + [t116].length ≤ 1099511627776) (terms_Learn.L0 t7 t16 k (y_22 ++ [t116]) (IntKind.i64.wrap (x17_23 + 1)))))) else (some y_22)
set_option maxRecDepth 20000 in
theorem terms_Learn.L0_ok (t7 : KM) (t7_m : Nat) (t16 : List (List UInt8)) (t16_v : Value) {R : Ending → World → Prop} {w0 : World} {M0 Mb : Mem} {K : List Item} (hG : Glob Mb) (hm_t7 : KMap ShTm Mb t7_m t7) (hr_t16 : RowS Sh.str Mb t16_v t16) :
  ∀ (k : Nat) (M I : Mem) (hE : Env w0 M0 M I) (hx : Ext Mb M) (y_22 : List Tm) (x17_23 : Int) (y_22_v : Value) (y_22_c : Array Value) (r0_ : List Tm) (ho_y_22 : OwnS ShTm M y_22_v y_22_c y_22) (h : terms_Learn.L0 t7 t16 k y_22 x17_23 = some r0_) (hk : ∀ (M' I' : Mem),Env w0 M0 M' I' → Ext Mb M' → ∀ (z_o21_100_v : Value),∀ (z_o21_100_c : Array Value),OwnS ShTm M' z_o21_100_v z_o21_100_c r0_ → TT Tryd.prog 23 R 31 w0 I' K [(5,z_o21_100_v)] [(Value.ownBlock z_o21_100_v,.cells z_o21_100_c 25 (0,0))]),
   TT Tryd.prog 23 R 31 w0 I (.code (sub [1,1,1,1,0,1,0,0] B23) :: .inLoop (sub [1,1,1,1,0,1,0,0] B23) :: .inBlock 0 :: K) [(4,.map (some t7_m)),(5,y_22_v),(15,t16_v),(16,.int .i64 (t16.length : Int)),(17,.int .i64 x17_23)] [(Value.ownBlock y_22_v,.cells y_22_c 25 (0,0))]:=by
 intro k
 induction k with
 | zero => intro M I hE hx y_22 x17_23 y_22_v y_22_c r0_ ho_y_22 h; simp [terms_Learn.L0] at h
 | succ k ih =>
  intro M I hE hx y_22 x17_23 y_22_v y_22_c r0_ ho_y_22 h hk
  unfold terms_Learn.L0 at h
  refine TT.seq (x:=sub [1,1,1,1,0,1,0,0,0] B23) (y:=sub [1,1,1,1,0,1,0,0,1] B23) ?_
  refine TT.rg [0] [kp] rfl rfl ?_
  refine DL.pu 18 (.bool (decide (x17_23 < (t16.length : Int)))) rfl (p_lss rfl rfl rfl) ?_
  refine DL.nil ?_
  refine TT.seq (x:=sub [1,1,1,1,0,1,0,0,1,0] B23) (y:=sub [1,1,1,1,0,1,0,0,1,1] B23) ?_
  by_cases c101 : (decide (x17_23 < (t16.length : Int))) = true
  ·
   have h102:=ite_true c101 h
   refine TT.cond_true (x:=sub [1,1,1,1,0,1,0,0,1,0,0] B23) (y:=sub [1,1,1,1,0,1,0,0,1,0,1] B23) rfl c101 ?_
   refine TT.skip ?_
   refine TT.seq (x:=sub [1,1,1,1,0,1,0,0,1,1,0] B23) (y:=sub [1,1,1,1,0,1,0,0,1,1,1] B23) ?_
   refine TT.block (c:=sub [1,1,1,1,0,1,0,0,1,1,0,0] B23) ?_
   refine TT.seq (x:=sub [1,1,1,1,0,1,0,0,1,1,0,0,0] B23) (y:=sub [1,1,1,1,0,1,0,0,1,1,0,0,1] B23) ?_
   refine TT.rg [0,1,2] [kp,kp,kp] rfl rfl ?_
   obtain ⟨g103,h104⟩:=req_some h102
   obtain ⟨g105,h106⟩:=req_some h104
   refine DL.pu 19 (elp t16_v x17_23.toNat) rfl (p_slIx1 ty_u64 ty_s9 (RowS.some (RowS.mono hr_t16 hx) g103 g105) g103 g105 rfl rfl rfl) ?_
   refine DL.imm (v:=str (t16.getD x17_23.toNat [])) rfl (Wn.none rfl) rfl rfl rfl (i_loadEl (RowV.mono (RowS.strs (RowS.mono hr_t16 hx)) hE.mi) (strs_get (lt_len g103 g105)) ty_a9 rfl rfl) ?_
   refine DL.pu 7 (str (t16.getD x17_23.toNat [])) rfl (p_assign rfl rfl) ?_
   refine DL.nil ?_
   refine TT.rgD [0,1,2,3,4,5,6,7,8] [0,0,0,6,0,30,62,127,255] [kp,kp,kp,kq,kk,kk,(.alloc,none),kx,kp] rfl mixed (by kernel_rfl) ?_
   intro w107 hl107 hj107 hz107
   refine DL.mv 21 (y_22_v) rfl rfl rfl ?_
   refine DL.mv 22 (.map (some t7_m)) rfl rfl rfl ?_
   refine DL.mv 23 (str (t16.getD x17_23.toNat [])) rfl rfl rfl ?_
   obtain ⟨t109,e110,h111⟩:=nm_some h106
   obtain ⟨kv108,kl108,hr_kv108,hkb108,hkv108,hki108⟩:=KMap.look (KMap.mono hm_t7 hx) (t16.getD x17_23.toNat []); rw [← e110] at hr_kv108 hkv108
   refine DL.qu 24 (.agg (Tm.ce t109 kv108)) rfl (FImm.quiet (i_lookupS (I:=M) ty_u56 ty_u9 ty_z25 hkb108 hkv108 rfl rfl rfl) (fun w hc => hE.imm hc)) ?_
   obtain ⟨_,h113,h114⟩:=bind_some h111
   refine DL.callF (G:=Nat) (u:=fun g => .map (some g)) (Q:=fun g M_ => (M_ g = some FormsO)) (A:=[(Value.ownBlock y_22_v,.cells y_22_c 25 (0,0))]) (J:=[]) (fun J115 => ((Value.ownBlock y_22_v,.cells y_22_c 25 (0,0)) :: J115)) hl107.2.2.2 hE.nil (List.append_nil _).symm (fun _ => rfl) (by simp [kind_mk,num_mk]) (i:=4) rfl (Wn.none rfl) rfl rfl rfl rfl rfl rfl (args_val (vs:=[]) rfl) (fun w => enter40 _ w) (fun w hc hI => terms_forms.ok h113 (M:=M) w hI ) ?_
   rintro t112_m M115 J115 hE115 hx115 hm_t112
   show DL _ _ _ _ _ _ _ _ _ _ _ _ ((Value.ownBlock y_22_v,.cells y_22_c 25 (0,0)) :: J115)
   obtain ⟨t116,h117,h118⟩:=bind_some h114
   refine DL.callF (G:=Value) (u:=fun g => .agg (Tm.ce t116 g)) (Q:=fun g M_ => (RowS ShTm M_ g (Tree.kids t116))) (A:=[(Value.ownBlock y_22_v,.cells y_22_c 25 (0,0))]) (J:=J115) (fun J119 => ((Value.ownBlock y_22_v,.cells y_22_c 25 (0,0)) :: J119)) hl107.2.2.2 hE115 rfl (fun _ => rfl) (by simp [kind_mk,num_mk]) (i:=5) rfl (Wn.none rfl) rfl rfl rfl rfl rfl rfl (args_val (vs:=[.agg (Tm.ce t109 kv108),.map (some t112_m)]) rfl) (fun w => enter39 _ w) (fun w hc hI => terms_order.ok h117 (M:=M115) w hI (Glob.mono hG (hx.trans hx115)) (RowS.mono hr_kv108 hx115) hm_t112) ?_
   rintro t116_2 M119 J119 hE119 hx119 hr_t116_2
   show DL _ _ _ _ _ _ _ _ _ _ _ _ ((Value.ownBlock y_22_v,.cells y_22_c 25 (0,0)) :: J119)
   refine DL.newS (M:=M119) (s:=ShTm) (zs:=[t116]) (cells:=[.int .i64 (Tm.kind t116),.int .i64 (Tm.num t116),t116_2]) (n:=1) rfl (by decide) rfl (fun i x hx => by match i,hx with | 0,hx => cases hx; exact (Tm.cl (t:=t116) hr_t116_2) | k + 1,hx => simp at hx) (i:=6) rfl (Wn.none rfl) rfl rfl rfl (f_buildS (n:=1) (vs:=[(0,.agg (Tm.ce t116 t116_2))]) elem22 rfl rfl (by kernel_rfl) rfl (args_val2 rfl)) ?_
   intro s121_v s121_c ho_s121
   obtain ⟨g122,h123⟩:=req_some h118
   refine DL.appendS (M:=M119) (s:=ShTm) (fun s124_v s124_c => ((Value.ownBlock s121_v,.cells s121_c 25 (0,0)) :: (Value.ownBlock s124_v,.cells s124_c 25 (0,0)) :: J119)) elem22 (j:=1) rfl (OwnS.mono ho_y_22 (hx115.trans hx119)) g122 (by decide) (OwnS.src (i:=0) ho_s121 rfl) (i:=7) rfl (Wn.none rfl) rfl rfl rfl rfl rfl rfl (fun _ _ => rfl) ?_
   intro s124_v s124_c ho_s124
   show DL _ _ _ _ _ _ _ _ _ _ _ _ ((Value.ownBlock s121_v,.cells s121_c 25 (0,0)) :: (Value.ownBlock s124_v,.cells s124_c 25 (0,0)) :: J119)
   refine DL.pu 5 (s124_v) rfl (p_assign rfl rfl) ?_
   refine DL.nil' hl107 ?_
   refine TT.settle (A:=[(Value.ownBlock s121_v,.cells s121_c 25 (0,0)),(Value.ownBlock s124_v,.cells s124_c 25 (0,0))]) (J:=J119) hE119 ?_
   intro I125 hE125 hxI125
   refine TT.inBlock ?_
   refine TT.rg [0,1] [kp,kp] rfl rfl ?_
   refine DL.pu 29 (.int .i64 (IntKind.i64.wrap (x17_23 + 1))) rfl (p_add rfl rfl rfl) ?_
   refine DL.mv 17 (.int .i64 (IntKind.i64.wrap (x17_23 + 1))) rfl rfl rfl ?_
   refine DL.nil ?_
   refine TT.inLoop ?_
   exact TT.pick [1] (by decide) (TT.weak (ih M119 I125 hE125 ((hx.trans hx115).trans hx119) (y_22 ++ [t116]) (IntKind.i64.wrap (x17_23 + 1)) s124_v s124_c r0_ ho_s124 h123 hk) (Sub.cons rfl (Sub.cons rfl (Sub.cons rfl (Sub.cons rfl (Sub.cons rfl (Sub.nil _)))))))
  ·
   replace c101:=Bool.eq_false_iff.mpr c101
   have h126:=ite_false c101 h
   refine TT.cond_false (x:=sub [1,1,1,1,0,1,0,0,1,0,0] B23) (y:=sub [1,1,1,1,0,1,0,0,1,0,1] B23) rfl c101 ?_
   refine TT.exit rfl ?_
   obtain rfl:=Option.some.inj h126
   exact TT.weak (hk M I hE hx y_22_v y_22_c ho_y_22) (Sub.cons rfl (Sub.nil _))

def terms_Learn.f (a0 : List Tm) : Option ((List Tm) × Int):=(terms_may.f a0).bind fun t1 => if (!t1) = true then (some (([] : List Tm),2)) else ((terms_learn.f a0).bind fun t7 => (tm_keys.f t7).bind fun _ => (tm_sorted.f t7).bind fun t16 => (terms_Learn.L0 t7 t16 ((t16.length : Int).toNat + 1) ([] : List Tm) 0).bind fun z_o21_100 => some (z_o21_100,0))
set_option maxRecDepth 20000 in
theorem terms_Learn.ok {a0 : List Tm} {a0_v : Value} {r_0 : List Tm} {r_1 : Int} (h : terms_Learn.f a0 = some (r_0,r_1)) {M : Mem} (w : World) (hM : Ext M (heapOf w)) (hG : Glob M) (hr_a0 : RowS ShTm M a0_v a0) : Calls Tryd.prog 23 #[a0_v] w (PostF (G:=Value) (fun g => .tuple #[g,.int .i64 r_1]) (fun g M_ => (RowS ShTm M_ g r_0)) M w):=by
 unfold terms_Learn.f at h
 have hE:=Env.start hM
 refine calls_of_TT (N:=31) (S:=[(0,a0_v)]) (c:=B23) Tryd.func23 rfl rfl rfl (by simp) ?_
 show TT _ _ _ _ _ _ [.code (sub [] B23)] _ _
 refine TT.seq (x:=sub [0] B23) (y:=sub [1] B23) ?_
 refine TT.rg [0,1] [kp,kp] rfl rfl ?_
 refine DL.pu 2 (.slice none 0 0) rfl (p_assign rfl rfl) ?_
 refine DL.pu 3 (.int .i64 0) rfl (p_assign rfl rfl) ?_
 refine DL.nil ?_
 refine TT.seq (x:=sub [1,0] B23) (y:=sub [1,1] B23) ?_
 refine TT.seq (x:=sub [1,0,0] B23) (y:=sub [1,0,1] B23) ?_
 refine TT.rg [0,1,2] [kp,kq,kp] rfl rfl ?_
 refine DL.mv 8 (a0_v) rfl rfl rfl ?_
 obtain ⟨t1,h2,h3⟩:=bind_some h
 refine DL.qu 9 (.bool t1) rfl (f_callR rfl rfl (args_val (vs:=[a0_v]) rfl) (fun w => enter36 _ w) (fun w hc => terms_may.val h2 (M:=M) w (hE.ext hc) hr_a0)) ?_
 refine DL.pu 10 (.bool (!t1)) rfl (p_not rfl rfl) ?_
 refine DL.nil ?_
 by_cases c4 : (!t1) = true
 ·
  have h5:=ite_true c4 h3
  refine TT.cond_true (x:=sub [1,0,1,0] B23) (y:=sub [1,0,1,1] B23) rfl c4 ?_
  refine TT.seq (x:=sub [1,0,1,0,0] B23) (y:=sub [1,0,1,0,1] B23) ?_
  refine TT.rg [0,1] [kp,kp] rfl rfl ?_
  refine DL.pu 2 (.slice none 0 0) rfl (p_assign rfl rfl) ?_
  refine DL.pu 3 (.int .i64 2) rfl (p_assign rfl rfl) ?_
  refine DL.nil ?_
  simp only [Option.some.injEq,Prod.mk.injEq] at h5
  obtain ⟨rfl,rfl⟩:=h5
  exact retF (rs:=[.tmp 2,.tmp 3]) (vs:=[(.slice none 0 0),.int .i64 2]) (.slice none 0 0) hE Tryd.func23 rfl rfl rfl (res_cons (ResV.tmp rfl) (res_cons (ResV.tmp rfl) res_nil)) (RowS.nil ShTm M)
 ·
  replace c4:=Bool.eq_false_iff.mpr c4
  have h6:=ite_false c4 h3
  refine TT.cond_false (x:=sub [1,0,1,0] B23) (y:=sub [1,0,1,1] B23) rfl c4 ?_
  refine TT.skip ?_
  refine TT.seq (x:=sub [1,1,0] B23) (y:=sub [1,1,1] B23) ?_
  refine TT.rg [0,1,2] [kp,kk,kp] rfl rfl ?_
  refine DL.mv 11 (a0_v) rfl rfl rfl ?_
  obtain ⟨t7,h8,h9⟩:=bind_some h6
  refine DL.callF (G:=Nat) (u:=fun g => .map (some g)) (Q:=fun g M_ => (KMap ShTm M_ g t7)) (A:=[]) (J:=[]) (fun J10 => (J10)) (Nat.le_refl _) hE.nil (List.append_nil _).symm (fun _ => rfl) (by simp [kind_mk,num_mk]) (i:=1) rfl (Wn.none rfl) rfl rfl rfl rfl rfl rfl (args_val (vs:=[a0_v]) rfl) (fun w => enter37 _ w) (fun w hc hI => terms_learn.ok h8 (M:=M) w hI hG hr_a0) ?_
  rintro t7_m M10 J10 hE10 hx10 hm_t7
  show DL _ _ _ _ _ _ _ _ _ _ _ _ (J10)
  refine DL.pu 4 (.map (some t7_m)) rfl (p_assign rfl rfl) ?_
  refine DL.nil ?_
  refine TT.settle (A:=[]) (J:=J10) hE10 ?_
  intro I11 hE11 hxI11
  refine TT.seq (x:=sub [1,1,1,0] B23) (y:=sub [1,1,1,1] B23) ?_
  refine TT.rg [0] [kp] rfl rfl ?_
  refine DL.pu 5 (.slice none 0 0) rfl (p_assign rfl rfl) ?_
  refine DL.nil ?_
  refine TT.seq (x:=sub [1,1,1,1,0] B23) (y:=sub [1,1,1,1,1] B23) ?_
  refine TT.seq (x:=sub [1,1,1,1,0,0] B23) (y:=sub [1,1,1,1,0,1] B23) ?_
  refine TT.rg [0,1,2,3,4] [kp,kk,kk,kp,kp] rfl rfl ?_
  refine DL.mv 13 (.map (some t7_m)) rfl rfl rfl ?_
  obtain ⟨_,h13,h14⟩:=bind_some h9
  refine DL.callF (G:=Nat) (u:=fun g => .func (.func 67) #[] #[ptr g 0]) (Q:=fun g M_ => (M_ g = some (.cells #[.map (some t7_m)] 56 (0,0)))) (A:=[]) (J:=[]) (fun J15 => (J15)) (Nat.le_refl _) hE11.nil (List.append_nil _).symm (fun _ => rfl) (by simp [kind_mk,num_mk]) (i:=1) rfl (Wn.none rfl) rfl rfl rfl rfl rfl rfl (args_val (vs:=[.map (some t7_m)]) rfl) (fun w => enter43 _ w) (fun w hc hI => tm_keys.ok h13 (M:=M10) w hI hm_t7) ?_
  rintro t12_b M15 J15 hE15 hx15 hb_t12
  show DL _ _ _ _ _ _ _ _ _ _ _ _ (J15)
  obtain ⟨t16,h17,h18⟩:=bind_some h14
  refine DL.callF (G:=Value) (u:=fun g => g) (Q:=fun g M_ => (RowS Sh.str M_ g t16)) (A:=[]) (J:=J15) (fun J19 => (J19)) (Nat.le_refl _) hE15 rfl (fun _ => rfl) (by simp [kind_mk,num_mk]) (i:=2) rfl (Wn.none rfl) rfl rfl rfl rfl rfl rfl (args_val (vs:=[.func (.func 67) #[] #[ptr t12_b 0]]) rfl) (fun w => enter42 _ w) (fun w hc hI => tm_sorted.ok h17 (M:=M15) w hI (KMap.mono hm_t7 hx15) hb_t12) ?_
  rintro t16_v M19 J19 hE19 hx19 hr_t16
  show DL _ _ _ _ _ _ _ _ _ _ _ _ (J19)
  refine DL.pu 16 (.int .i64 (t16.length : Int)) rfl (p_slLen ty_u64 (RowS.sl hr_t16) rfl rfl) ?_
  refine DL.mv 17 (.int .i64 0) rfl rfl rfl ?_
  refine DL.nil ?_
  refine TT.settle (A:=[]) (J:=J19) hE19 ?_
  intro I20 hE20 hxI20
  refine TT.block (c:=sub [1,1,1,1,0,1,0] B23) ?_
  refine TT.nilOwn (e:=25) ?_
  refine TT.loop (c:=sub [1,1,1,1,0,1,0,0] B23) ?_
  obtain ⟨z_o21_100,h127,h128⟩:=bind_some h18
  refine TT.weak (terms_Learn.L0_ok t7 t7_m t16 t16_v (Glob.mono hG ((hx10.trans hx15).trans hx19)) (KMap.mono hm_t7 (hx15.trans hx19)) hr_t16 ((t16.length : Int).toNat + 1) M19 I20 hE20 (Ext.refl _) ([] : List Tm) 0 (.slice none 0 0) (#[]) z_o21_100 (OwnS.nil ShTm M19) h127 (fun M129 I129 hE129 hx129 z_o21_100_v z_o21_100_c ho_z_o21_100 => ?_)) (Sub.cons rfl (Sub.cons rfl (Sub.cons rfl (Sub.cons rfl (Sub.cons rfl (Sub.nil _))))))
  refine TT.seq (x:=sub [1,1,1,1,1,0] B23) (y:=sub [1,1,1,1,1,1] B23) ?_
  refine TT.rg [0,1,2] [kp,kp,kp] rfl rfl ?_
  refine DL.mv 30 (z_o21_100_v) rfl rfl rfl ?_
  refine DL.pu 2 (z_o21_100_v) rfl (p_assign rfl rfl) ?_
  refine DL.pu 3 (.int .i64 0) rfl (p_assign rfl rfl) ?_
  refine DL.nil ?_
  refine TT.freezeAt (j:=0) hE129 rfl ?_
  intro M130 I130 hE130 hx130 hxI130 hb130
  have hr_130 : RowS ShTm M130 z_o21_100_v z_o21_100:=OwnS.stays ho_z_o21_100 hx130 hb130
  show TT _ _ _ _ _ _ _ _ []
  simp only [Option.some.injEq,Prod.mk.injEq] at h128
  obtain ⟨rfl,rfl⟩:=h128
  exact retF (rs:=[.tmp 2,.tmp 3]) (vs:=[z_o21_100_v,.int .i64 0]) z_o21_100_v hE130 Tryd.func23 rfl rfl rfl (res_cons (ResV.tmp rfl) (res_cons (ResV.tmp rfl) res_nil)) hr_130

/-! ### escutcheon/escutcheonlaw29.TermsLearns: function 8 -/
noncomputable def B8 : Code:=bodyOf Tryd.f8
def law29_TermsLearns.L1 (t22_0 : List Tm) (t66 : List Tm) (x9_107 : Int) : Nat → Bool → Int → Option (Bool)
 | 0,_,_ => none
 | k + 1,x10_323,x11_324 => if (decide (x11_324 < (t66.length : Int))) = true then ((if x10_323 = true then (some true) else (req (0 ≤ x9_107) (req (x9_107 < (t22_0.length : Int)) (nm (t22_0.getD x9_107.toNat Tm.dflt) fun t423 => req (0 ≤ x11_324) (req (x11_324 < (t66.length : Int)) (nm (t66.getD x11_324.toNat Tm.dflt) fun t431 => (ref29_Equal.f (Tm.fuel t423) t423 t431).bind fun t434 => some t434)))))).bind fun q411 => law29_TermsLearns.L1 t22_0 t66 x9_107 k q411 (IntKind.i64.wrap (x11_324 + 1))) else (some x10_323)
set_option maxRecDepth 20000 in
theorem law29_TermsLearns.L1_ok (a1 : Tm) (a1_2 : Value) (b1 : Nat) (t22_0 : List Tm) (t22_0_v : Value) (t66 : List Tm) (t66_v : Value) (x9_107 : Int) {R : Ending → World → Prop} {w0 : World} {M0 M I : Mem} {K : List Item} (hE : Env w0 M0 M I) (hr_t22_0 : RowS ShTm M t22_0_v t22_0) (hr_t66 : RowS ShTm M t66_v t66) :
  ∀ (k : Nat) (x10_323 : Bool) (x11_324 : Int) (r0_ : Bool) (h : law29_TermsLearns.L1 t22_0 t66 x9_107 k x10_323 x11_324 = some r0_) (hk : TT Tryd.prog 8 R 114 w0 I K [(5,t22_0_v),(8,t66_v),(9,.int .i64 x9_107),(10,.bool r0_)] [(some b1,.cells ((Tm.ce a1 a1_2)) 25 (0,0))]),
   TT Tryd.prog 8 R 114 w0 I (.code (sub [1,1,1,1,1,1,1,0,1,0,0,1,0,0,1,0,1,0,0] B8) :: .inLoop (sub [1,1,1,1,1,1,1,0,1,0,0,1,0,0,1,0,1,0,0] B8) :: .inBlock 2 :: K) [(5,t22_0_v),(8,t66_v),(9,.int .i64 x9_107),(10,.bool x10_323),(11,.int .i64 x11_324)] [(some b1,.cells ((Tm.ce a1 a1_2)) 25 (0,0))]:=by
 intro k
 induction k with
 | zero => intro x10_323 x11_324 r0_ h; simp [law29_TermsLearns.L1] at h
 | succ k ih =>
  intro x10_323 x11_324 r0_ h hk
  unfold law29_TermsLearns.L1 at h
  refine TT.seq (x:=sub [1,1,1,1,1,1,1,0,1,0,0,1,0,0,1,0,1,0,0,0] B8) (y:=sub [1,1,1,1,1,1,1,0,1,0,0,1,0,0,1,0,1,0,0,1] B8) ?_
  refine TT.seq (x:=sub [1,1,1,1,1,1,1,0,1,0,0,1,0,0,1,0,1,0,0,0,0] B8) (y:=sub [1,1,1,1,1,1,1,0,1,0,0,1,0,0,1,0,1,0,0,0,1] B8) ?_
  refine TT.rg [0,1,2,3] [kp,kp,kp,kp] rfl rfl ?_
  refine DL.mv 75 (.int .i64 x11_324) rfl rfl rfl ?_
  refine DL.mv 76 (t66_v) rfl rfl rfl ?_
  refine DL.pu 77 (.int .i64 (t66.length : Int)) rfl (p_slLen ty_u22 (RowS.sl hr_t66) rfl rfl) ?_
  refine DL.pu 78 (.bool (decide (x11_324 < (t66.length : Int)))) rfl (p_lss rfl rfl rfl) ?_
  refine DL.nil ?_
  by_cases c407 : (decide (x11_324 < (t66.length : Int))) = true
  ·
   have h408:=ite_true c407 h
   refine TT.cond_true (x:=sub [1,1,1,1,1,1,1,0,1,0,0,1,0,0,1,0,1,0,0,0,1,0] B8) (y:=sub [1,1,1,1,1,1,1,0,1,0,0,1,0,0,1,0,1,0,0,0,1,1] B8) rfl c407 ?_
   refine TT.skip ?_
   refine TT.seq (x:=sub [1,1,1,1,1,1,1,0,1,0,0,1,0,0,1,0,1,0,0,1,0] B8) (y:=sub [1,1,1,1,1,1,1,0,1,0,0,1,0,0,1,0,1,0,0,1,1] B8) ?_
   refine TT.block (c:=sub [1,1,1,1,1,1,1,0,1,0,0,1,0,0,1,0,1,0,0,1,0,0] B8) ?_
   refine TT.rgD [0,1,2,3,4,5,6,7,8,9,10,11,12] [0,1,3,3,15,31,3,3,195,451,1023,2047,4095] [kp,kp,kp,kp,kp,kp,kp,kp,kp,kp,kq,kp,kp] rfl mixed (by kernel_rfl) ?_
   intro w409 hl409 hj409 hz409
   refine DL.mv 81 (.bool x10_323) rfl rfl rfl ?_
   refine DL.mv 82 (.bool x10_323) rfl rfl rfl ?_
   obtain ⟨q411,h412,h413⟩:=bind_some h408
   refine DL.cut [(5,t22_0_v),(8,t66_v),(9,.int .i64 x9_107),(11,.int .i64 x11_324),(92,.bool q411)] [12] ?_ (fun J414 => ?_)
   ·
    refine DL.pu 10 (.bool q411) rfl (p_assign rfl rfl) ?_
    refine DL.nil' hl409 ?_
    refine TT.inBlock ?_
    refine TT.rg [0,1,2] [kp,kp,kp] rfl rfl ?_
    refine DL.mv 79 (.int .i64 x11_324) rfl rfl rfl ?_
    refine DL.pu 80 (.int .i64 (IntKind.i64.wrap (x11_324 + 1))) rfl (p_add rfl rfl rfl) ?_
    refine DL.pu 11 (.int .i64 (IntKind.i64.wrap (x11_324 + 1))) rfl (p_assign rfl rfl) ?_
    refine DL.nil ?_
    refine TT.inLoop ?_
    exact TT.weak (ih q411 (IntKind.i64.wrap (x11_324 + 1)) r0_ h413 hk) (Sub.cons rfl (Sub.cons rfl (Sub.cons rfl (Sub.cons rfl (Sub.cons rfl (Sub.nil _))))))
   ·
    by_cases c415 : x10_323 = true
    ·
     have h416:=ite_true c415 h412
     refine DL.not (i:=2) rfl (Wn.yes c415 rfl rfl rfl rfl) rfl rfl ?_
     refine DL.not (i:=3) rfl (Wn.yes c415 rfl rfl rfl rfl) rfl rfl ?_
     refine DL.not (i:=4) rfl (Wn.yes c415 rfl rfl rfl rfl) rfl rfl ?_
     refine DL.not (i:=5) rfl (Wn.yes c415 rfl rfl rfl rfl) rfl rfl ?_
     refine DL.not (i:=6) rfl (Wn.yes c415 rfl rfl rfl rfl) rfl rfl ?_
     refine DL.not (i:=7) rfl (Wn.yes c415 rfl rfl rfl rfl) rfl rfl ?_
     refine DL.not (i:=8) rfl (Wn.yes c415 rfl rfl rfl rfl) rfl rfl ?_
     refine DL.not (i:=9) rfl (Wn.yes c415 rfl rfl rfl rfl) rfl rfl ?_
     refine DL.not (i:=10) rfl (Wn.yes c415 rfl rfl rfl rfl) rfl rfl ?_
     refine DL.pu 92 (.bool true) rfl (p_pick_t c415 rfl rfl rfl) ?_
     obtain rfl:=Option.some.inj h416
     exact DL.weak J414 (Sub.cons rfl (Sub.cons rfl (Sub.cons rfl (Sub.cons rfl (Sub.cons rfl (Sub.nil _))))))
    ·
     replace c415:=Bool.eq_false_iff.mpr c415
     have h417:=ite_false c415 h412
     refine DL.pure (v:=t22_0_v) rfl (Wn.no c415 rfl rfl rfl rfl) rfl rfl rfl (p_move rfl rfl) ?_
     refine DL.pure (v:=.int .i64 x9_107) rfl (Wn.no c415 rfl rfl rfl rfl) rfl rfl rfl (p_move rfl rfl) ?_
     obtain ⟨g418,h419⟩:=req_some h417
     obtain ⟨g420,h421⟩:=req_some h419
     refine DL.pure (v:=elp t22_0_v (x9_107.toNat * 3)) rfl (Wn.no c415 rfl rfl rfl rfl) rfl rfl rfl (p_slIx ty_u22 ty_s25 (RowS.some hr_t22_0 g418 g420) g418 g420 rfl rfl rfl) ?_
     obtain ⟨t423,e424,h425⟩:=nm_some h421
     obtain ⟨cs422,hc422,hl422⟩:=id (hr_t22_0)
     have q422:=hl422 _ _ (getD_some Tm.dflt (lt_len g418 g420)); rw [← e424] at q422
     obtain ⟨t423_2,hq422,hr_t423_2⟩:=Tm.op q422
     refine DL.imm (v:=.agg (Tm.ce t423 t423_2)) rfl (Wn.no c415 rfl rfl rfl rfl) rfl rfl rfl (i_loadElA (RowV.mono hc422 hE.mi) hq422 (lt_len g418 g420) ty_a25 ty_s25 rfl rfl) ?_
     refine DL.pure (v:=t66_v) rfl (Wn.no c415 rfl rfl rfl rfl) rfl rfl rfl (p_move rfl rfl) ?_
     refine DL.pure (v:=.int .i64 x11_324) rfl (Wn.no c415 rfl rfl rfl rfl) rfl rfl rfl (p_move rfl rfl) ?_
     obtain ⟨g426,h427⟩:=req_some h425
     obtain ⟨g428,h429⟩:=req_some h427
     refine DL.pure (v:=elp t66_v (x11_324.toNat * 3)) rfl (Wn.no c415 rfl rfl rfl rfl) rfl rfl rfl (p_slIx ty_u22 ty_s25 (RowS.some hr_t66 g426 g428) g426 g428 rfl rfl rfl) ?_
     obtain ⟨t431,e432,h433⟩:=nm_some h429
     obtain ⟨cs430,hc430,hl430⟩:=id (hr_t66)
     have q430:=hl430 _ _ (getD_some Tm.dflt (lt_len g426 g428)); rw [← e432] at q430
     obtain ⟨t431_2,hq430,hr_t431_2⟩:=Tm.op q430
     refine DL.imm (v:=.agg (Tm.ce t431 t431_2)) rfl (Wn.no c415 rfl rfl rfl rfl) rfl rfl rfl (i_loadElA (RowV.mono hc430 hE.mi) hq430 (lt_len g426 g428) ty_a25 ty_s25 rfl rfl) ?_
     obtain ⟨t434,h435,h436⟩:=bind_some h433
     refine DL.quiet (v:=.bool t434) rfl (Wn.no c415 rfl rfl rfl rfl) rfl rfl rfl (f_callR rfl rfl (args_val (vs:=[.agg (Tm.ce t423 t423_2),.agg (Tm.ce t431 t431_2)]) rfl) (fun w => enter20 _ w) (fun w hc => ref29_Equal.val h435 (M:=M) w (hE.ext hc) hr_t423_2 hr_t431_2)) ?_
     refine DL.pu 92 (.bool t434) rfl (p_pick_f c415 rfl rfl rfl) ?_
     obtain rfl:=Option.some.inj h436
     exact DL.weak J414 (Sub.cons rfl (Sub.cons rfl (Sub.cons rfl (Sub.cons rfl (Sub.cons rfl (Sub.nil _))))))
  ·
   replace c407:=Bool.eq_false_iff.mpr c407
   have h437:=ite_false c407 h
   refine TT.cond_false (x:=sub [1,1,1,1,1,1,1,0,1,0,0,1,0,0,1,0,1,0,0,0,1,0] B8) (y:=sub [1,1,1,1,1,1,1,0,1,0,0,1,0,0,1,0,1,0,0,0,1,1] B8) rfl c407 ?_
   refine TT.exit rfl ?_
   obtain rfl:=Option.some.inj h437
   exact TT.weak (hk) (Sub.cons rfl (Sub.cons rfl (Sub.cons rfl (Sub.cons rfl (Sub.nil _)))))

def law29_TermsLearns.L0 (t22_0 : List Tm) (t66 : List Tm) : Nat → Int → Option ((Unit) ⊕ (Bool))
 | 0,_ => none
 | k + 1,x9_107 => if (decide (x9_107 < (t22_0.length : Int))) = true then ((law29_TermsLearns.L1 t22_0 t66 x9_107 ((t66.length : Int).toNat + 1) false 0).bind fun z10_406 => (if (!z10_406) = true then (some true) else ((if (decide (0 < x9_107)) = true then (req (0 ≤ (IntKind.i64.wrap (x9_107 - 1))) (req ((IntKind.i64.wrap (x9_107 - 1)) < (t22_0.length : Int)) (nm (t22_0.getD ((IntKind.i64.wrap (x9_107 - 1)).toNat) Tm.dflt) fun t462 => (ref29_Text.f (Tm.fuel t462) t462).bind fun t465 => req (0 ≤ x9_107) (req (x9_107 < (t22_0.length : Int)) (nm (t22_0.getD x9_107.toNat Tm.dflt) fun t473 => (ref29_Text.f (Tm.fuel t473) t473).bind fun t476 => some (!(lessL t465 t476))))))) else (some false)).bind fun q451 => some q451)).bind fun q443 => if q443 = true then (some (.inr false)) else (law29_TermsLearns.L0 t22_0 t66 k (IntKind.i64.wrap (x9_107 + 1)))) else (some (.inl ()))
set_option maxRecDepth 20000 in
theorem law29_TermsLearns.L0_ok (a1 : Tm) (a1_2 : Value) (b1 : Nat) (t22_0 : List Tm) (t22_0_v : Value) (t66 : List Tm) (t66_v : Value) {r : Bool}  {w0 : World} {M0 M I : Mem} {K : List Item} (hE : Env w0 M0 M I) (hG : Glob M) (hr_t22_0 : RowS ShTm M t22_0_v t22_0) (hr_t66 : RowS ShTm M t66_v t66) :
  ∀ (k : Nat) (x9_107 : Int) (q : (Unit) ⊕ (Bool)) (h : law29_TermsLearns.L0 t22_0 t66 k x9_107 = some q) (hk : match (generalizing:=false) q with | .inl () => (TT Tryd.prog 8 (Post (fun u => u = .bool r) w0) 114 w0 I K [] [(some b1,.cells ((Tm.ce a1 a1_2)) 25 (0,0))]) | .inr rq => rq = r),
   TT Tryd.prog 8 (Post (fun u => u = .bool r) w0) 114 w0 I (.code (sub [1,1,1,1,1,1,1,0,1,0,0] B8) :: .inLoop (sub [1,1,1,1,1,1,1,0,1,0,0] B8) :: .inBlock 0 :: K) [(5,t22_0_v),(8,t66_v),(9,.int .i64 x9_107)] [(some b1,.cells ((Tm.ce a1 a1_2)) 25 (0,0))]:=by
 intro k
 induction k with
 | zero => intro x9_107 q h; simp [law29_TermsLearns.L0] at h
 | succ k ih =>
  intro x9_107 q h hk
  unfold law29_TermsLearns.L0 at h
  refine TT.seq (x:=sub [1,1,1,1,1,1,1,0,1,0,0,0] B8) (y:=sub [1,1,1,1,1,1,1,0,1,0,0,1] B8) ?_
  refine TT.seq (x:=sub [1,1,1,1,1,1,1,0,1,0,0,0,0] B8) (y:=sub [1,1,1,1,1,1,1,0,1,0,0,0,1] B8) ?_
  refine TT.rg [0,1,2,3] [kp,kp,kp,kp] rfl rfl ?_
  refine DL.mv 69 (.int .i64 x9_107) rfl rfl rfl ?_
  refine DL.mv 70 (t22_0_v) rfl rfl rfl ?_
  refine DL.pu 71 (.int .i64 (t22_0.length : Int)) rfl (p_slLen ty_u22 (RowS.sl hr_t22_0) rfl rfl) ?_
  refine DL.pu 72 (.bool (decide (x9_107 < (t22_0.length : Int)))) rfl (p_lss rfl rfl rfl) ?_
  refine DL.nil ?_
  by_cases c321 : (decide (x9_107 < (t22_0.length : Int))) = true
  ·
   have h322:=ite_true c321 h
   refine TT.cond_true (x:=sub [1,1,1,1,1,1,1,0,1,0,0,0,1,0] B8) (y:=sub [1,1,1,1,1,1,1,0,1,0,0,0,1,1] B8) rfl c321 ?_
   refine TT.skip ?_
   refine TT.seq (x:=sub [1,1,1,1,1,1,1,0,1,0,0,1,0] B8) (y:=sub [1,1,1,1,1,1,1,0,1,0,0,1,1] B8) ?_
   refine TT.block (c:=sub [1,1,1,1,1,1,1,0,1,0,0,1,0,0] B8) ?_
   refine TT.seq (x:=sub [1,1,1,1,1,1,1,0,1,0,0,1,0,0,0] B8) (y:=sub [1,1,1,1,1,1,1,0,1,0,0,1,0,0,1] B8) ?_
   refine TT.rg [0] [kp] rfl rfl ?_
   refine DL.pu 10 (.bool false) rfl (p_assign rfl rfl) ?_
   refine DL.nil ?_
   refine TT.seq (x:=sub [1,1,1,1,1,1,1,0,1,0,0,1,0,0,1,0] B8) (y:=sub [1,1,1,1,1,1,1,0,1,0,0,1,0,0,1,1] B8) ?_
   refine TT.seq (x:=sub [1,1,1,1,1,1,1,0,1,0,0,1,0,0,1,0,0] B8) (y:=sub [1,1,1,1,1,1,1,0,1,0,0,1,0,0,1,0,1] B8) ?_
   refine TT.rg [0] [kp] rfl rfl ?_
   refine DL.pu 11 (.int .i64 0) rfl (p_assign rfl rfl) ?_
   refine DL.nil ?_
   refine TT.block (c:=sub [1,1,1,1,1,1,1,0,1,0,0,1,0,0,1,0,1,0] B8) ?_
   refine TT.loop (c:=sub [1,1,1,1,1,1,1,0,1,0,0,1,0,0,1,0,1,0,0] B8) ?_
   obtain ⟨z10_406,h438,h439⟩:=bind_some h322
   refine TT.weak (law29_TermsLearns.L1_ok a1 a1_2 b1 t22_0 t22_0_v t66 t66_v x9_107 hE hr_t22_0 hr_t66 ((t66.length : Int).toNat + 1) false 0 z10_406 h438 ( ?_)) (Sub.cons rfl (Sub.cons rfl (Sub.cons rfl (Sub.cons rfl (Sub.cons rfl (Sub.nil _))))))
   refine TT.seq (x:=sub [1,1,1,1,1,1,1,0,1,0,0,1,0,0,1,1,0] B8) (y:=sub [1,1,1,1,1,1,1,0,1,0,0,1,0,0,1,1,1] B8) ?_
   refine TT.rgD [0,1,2,3,4,5,6,7,8,9,10,11,12,13,14,15,16,17,18,19] [0,1,3,7,15,31,63,63,191,511,1023,2047,63,63,12351,28735,65535,131071,262143,524287] [kp,kp,kp,kp,kp,kp,kp,kp,kp,kp,kp,kq,kp,kp,kp,kp,kq,kp,kp,kp] rfl mixed (by kernel_rfl) ?_
   intro w441 hl441 hj441 hz441
   refine DL.mv 93 (.bool z10_406) rfl rfl rfl ?_
   refine DL.pu 94 (.bool (!z10_406)) rfl (p_not rfl rfl) ?_
   refine DL.mv 95 (.bool (!z10_406)) rfl rfl rfl ?_
   obtain ⟨q443,h444,h445⟩:=bind_some h439
   refine DL.cut [(5,t22_0_v),(8,t66_v),(9,.int .i64 x9_107),(112,.bool q443)] [] ?_ (fun J446 => ?_)
   ·
    refine DL.nil' hl441 ?_
    by_cases c480 : q443 = true
    ·
     have h481:=ite_true c480 h445
     refine TT.cond_true (x:=sub [1,1,1,1,1,1,1,0,1,0,0,1,0,0,1,1,1,0] B8) (y:=sub [1,1,1,1,1,1,1,0,1,0,0,1,0,0,1,1,1,1] B8) rfl c480 ?_
     refine TT.seq (x:=sub [1,1,1,1,1,1,1,0,1,0,0,1,0,0,1,1,1,0,0] B8) (y:=sub [1,1,1,1,1,1,1,0,1,0,0,1,0,0,1,1,1,0,1] B8) ?_
     refine TT.rg [0] [kp] rfl rfl ?_
     refine DL.pu 4 (.bool false) rfl (p_assign rfl rfl) ?_
     refine DL.nil ?_
     obtain rfl:=Option.some.inj h481
     have k482 : false = r:=hk
     subst k482
     exact retnE (rs:=[.tmp 4]) (vs:=[.bool false]) hE.base Tryd.func8 rfl rfl rfl (res_cons (ResV.tmp rfl) res_nil) rfl
    ·
     replace c480:=Bool.eq_false_iff.mpr c480
     have h483:=ite_false c480 h445
     refine TT.cond_false (x:=sub [1,1,1,1,1,1,1,0,1,0,0,1,0,0,1,1,1,0] B8) (y:=sub [1,1,1,1,1,1,1,0,1,0,0,1,0,0,1,1,1,1] B8) rfl c480 ?_
     refine TT.skip ?_
     refine TT.inBlock ?_
     refine TT.rg [0,1,2] [kp,kp,kp] rfl rfl ?_
     refine DL.mv 73 (.int .i64 x9_107) rfl rfl rfl ?_
     refine DL.pu 74 (.int .i64 (IntKind.i64.wrap (x9_107 + 1))) rfl (p_add rfl rfl rfl) ?_
     refine DL.pu 9 (.int .i64 (IntKind.i64.wrap (x9_107 + 1))) rfl (p_assign rfl rfl) ?_
     refine DL.nil ?_
     refine TT.inLoop ?_
     exact TT.weak (ih (IntKind.i64.wrap (x9_107 + 1)) _ h483 hk) (Sub.cons rfl (Sub.cons rfl (Sub.cons rfl (Sub.nil _))))
   ·
    by_cases c447 : (!z10_406) = true
    ·
     have h448:=ite_true c447 h444
     refine DL.not (i:=3) rfl (Wn.yes c447 rfl rfl rfl rfl) rfl rfl ?_
     refine DL.not (i:=4) rfl (Wn.yes c447 rfl rfl rfl rfl) rfl rfl ?_
     refine DL.not (i:=5) rfl (Wn.yes c447 rfl rfl rfl rfl) rfl rfl ?_
     refine DL.not (i:=6) rfl (Wn.undef rfl rfl rfl) rfl rfl ?_
     refine DL.not (i:=7) rfl (Wn.undef rfl rfl rfl) rfl rfl ?_
     refine DL.not (i:=8) rfl (Wn.undef rfl rfl rfl) rfl rfl ?_
     refine DL.not (i:=9) rfl (Wn.undef rfl rfl rfl) rfl rfl ?_
     refine DL.not (i:=10) rfl (Wn.undef rfl rfl rfl) rfl rfl ?_
     refine DL.not (i:=11) rfl (Wn.undef rfl rfl rfl) rfl rfl ?_
     refine DL.not (i:=12) rfl (Wn.undef rfl rfl rfl) rfl rfl ?_
     refine DL.not (i:=13) rfl (Wn.undef rfl rfl rfl) rfl rfl ?_
     refine DL.not (i:=14) rfl (Wn.undef rfl rfl rfl) rfl rfl ?_
     refine DL.not (i:=15) rfl (Wn.undef rfl rfl rfl) rfl rfl ?_
     refine DL.not (i:=16) rfl (Wn.undef rfl rfl rfl) rfl rfl ?_
     refine DL.not (i:=17) rfl (Wn.undef rfl rfl rfl) rfl rfl ?_
     refine DL.not (i:=18) rfl (Wn.yes c447 rfl rfl rfl rfl) rfl rfl ?_
     refine DL.pu 112 (.bool true) rfl (p_pick_t c447 rfl rfl rfl) ?_
     obtain rfl:=Option.some.inj h448
     exact DL.weak J446 (Sub.cons rfl (Sub.cons rfl (Sub.cons rfl (Sub.cons rfl (Sub.nil _)))))
    ·
     replace c447:=Bool.eq_false_iff.mpr c447
     have h449:=ite_false c447 h444
     refine DL.pure (v:=.int .i64 x9_107) rfl (Wn.no c447 rfl rfl rfl rfl) rfl rfl rfl (p_move rfl rfl) ?_
     refine DL.pure (v:=.bool (decide (0 < x9_107))) rfl (Wn.no c447 rfl rfl rfl rfl) rfl rfl rfl (p_gtr rfl rfl rfl) ?_
     refine DL.pure (v:=.bool (decide (0 < x9_107))) rfl (Wn.no c447 rfl rfl rfl rfl) rfl rfl rfl (p_move rfl rfl) ?_
     obtain ⟨q451,h452,h453⟩:=bind_some h449
     refine DL.cut [(5,t22_0_v),(8,t66_v),(9,.int .i64 x9_107),(95,.bool (!z10_406)),(96,.int .i64 x9_107),(97,.bool (decide (0 < x9_107))),(98,.bool (decide (0 < x9_107))),(111,.bool q451)] [19] ?_ (fun J454 => ?_)
     ·
      refine DL.pu 112 (.bool q451) rfl (p_pick_f c447 rfl rfl rfl) ?_
      obtain rfl:=Option.some.inj h453
      exact DL.weak J446 (Sub.cons rfl (Sub.cons rfl (Sub.cons rfl (Sub.cons rfl (Sub.nil _)))))
     ·
      by_cases c455 : (decide (0 < x9_107)) = true
      ·
       have h456:=ite_true c455 h452
       refine DL.pure (v:=t22_0_v) rfl (Wn.yes c455 rfl rfl rfl rfl) rfl rfl rfl (p_move rfl rfl) ?_
       refine DL.pure (v:=.int .i64 x9_107) rfl (Wn.yes c455 rfl rfl rfl rfl) rfl rfl rfl (p_move rfl rfl) ?_
       refine DL.pure (v:=.int .i64 (IntKind.i64.wrap (x9_107 - 1))) rfl (Wn.yes c455 rfl rfl rfl rfl) rfl rfl rfl (p_sub rfl rfl rfl) ?_
       obtain ⟨g457,h458⟩:=req_some h456
       obtain ⟨g459,h460⟩:=req_some h458
       refine DL.pure (v:=elp t22_0_v (((IntKind.i64.wrap (x9_107 - 1)).toNat) * 3)) rfl (Wn.yes c455 rfl rfl rfl rfl) rfl rfl rfl (p_slIx ty_u22 ty_s25 (RowS.some hr_t22_0 g457 g459) g457 g459 rfl rfl rfl) ?_
       obtain ⟨t462,e463,h464⟩:=nm_some h460
       obtain ⟨cs461,hc461,hl461⟩:=id (hr_t22_0)
       have q461:=hl461 _ _ (getD_some Tm.dflt (lt_len g457 g459)); rw [← e463] at q461
       obtain ⟨t462_2,hq461,hr_t462_2⟩:=Tm.op q461
       refine DL.imm (v:=.agg (Tm.ce t462 t462_2)) rfl (Wn.yes c455 rfl rfl rfl rfl) rfl rfl rfl (i_loadElA (RowV.mono hc461 hE.mi) hq461 (lt_len g457 g459) ty_a25 ty_s25 rfl rfl) ?_
       obtain ⟨t465,h466,h467⟩:=bind_some h464
       refine DL.quiet (v:=str t465) rfl (Wn.yes c455 rfl rfl rfl rfl) rfl rfl rfl (f_callR rfl rfl (args_val (vs:=[.agg (Tm.ce t462 t462_2)]) rfl) (fun w => enter27 _ w) (fun w hc => ref29_Text.val h466 (M:=M) w (hE.ext hc) hG hr_t462_2)) ?_
       refine DL.pure (v:=t22_0_v) rfl (Wn.yes c455 rfl rfl rfl rfl) rfl rfl rfl (p_move rfl rfl) ?_
       refine DL.pure (v:=.int .i64 x9_107) rfl (Wn.yes c455 rfl rfl rfl rfl) rfl rfl rfl (p_move rfl rfl) ?_
       obtain ⟨g468,h469⟩:=req_some h467
       obtain ⟨g470,h471⟩:=req_some h469
       refine DL.pure (v:=elp t22_0_v (x9_107.toNat * 3)) rfl (Wn.yes c455 rfl rfl rfl rfl) rfl rfl rfl (p_slIx ty_u22 ty_s25 (RowS.some hr_t22_0 g468 g470) g468 g470 rfl rfl rfl) ?_
       obtain ⟨t473,e474,h475⟩:=nm_some h471
       obtain ⟨cs472,hc472,hl472⟩:=id (hr_t22_0)
       have q472:=hl472 _ _ (getD_some Tm.dflt (lt_len g468 g470)); rw [← e474] at q472
       obtain ⟨t473_2,hq472,hr_t473_2⟩:=Tm.op q472
       refine DL.imm (v:=.agg (Tm.ce t473 t473_2)) rfl (Wn.yes c455 rfl rfl rfl rfl) rfl rfl rfl (i_loadElA (RowV.mono hc472 hE.mi) hq472 (lt_len g468 g470) ty_a25 ty_s25 rfl rfl) ?_
       obtain ⟨t476,h477,h478⟩:=bind_some h475
       refine DL.quiet (v:=str t476) rfl (Wn.yes c455 rfl rfl rfl rfl) rfl rfl rfl (f_callR rfl rfl (args_val (vs:=[.agg (Tm.ce t473 t473_2)]) rfl) (fun w => enter27 _ w) (fun w hc => ref29_Text.val h477 (M:=M) w (hE.ext hc) hG hr_t473_2)) ?_
       refine DL.pure (v:=.bool (!(lessL t465 t476))) rfl (Wn.yes c455 rfl rfl rfl rfl) rfl rfl rfl (p_strGe rfl rfl rfl) ?_
       refine DL.pure (v:=.bool (!(lessL t465 t476))) rfl (Wn.no c447 rfl rfl rfl rfl) rfl rfl rfl (p_pick_t c455 rfl rfl rfl) ?_
       obtain rfl:=Option.some.inj h478
       exact DL.weak J454 (Sub.cons rfl (Sub.cons rfl (Sub.cons rfl (Sub.cons rfl (Sub.cons rfl (Sub.cons rfl (Sub.cons rfl (Sub.cons rfl (Sub.nil _)))))))))
      ·
       replace c455:=Bool.eq_false_iff.mpr c455
       have h479:=ite_false c455 h452
       refine DL.not (i:=6) rfl (Wn.no c455 rfl rfl rfl rfl) rfl rfl ?_
       refine DL.not (i:=7) rfl (Wn.no c455 rfl rfl rfl rfl) rfl rfl ?_
       refine DL.not (i:=8) rfl (Wn.no c455 rfl rfl rfl rfl) rfl rfl ?_
       refine DL.not (i:=9) rfl (Wn.no c455 rfl rfl rfl rfl) rfl rfl ?_
       refine DL.not (i:=10) rfl (Wn.no c455 rfl rfl rfl rfl) rfl rfl ?_
       refine DL.not (i:=11) rfl (Wn.no c455 rfl rfl rfl rfl) rfl rfl ?_
       refine DL.not (i:=12) rfl (Wn.no c455 rfl rfl rfl rfl) rfl rfl ?_
       refine DL.not (i:=13) rfl (Wn.no c455 rfl rfl rfl rfl) rfl rfl ?_
       refine DL.not (i:=14) rfl (Wn.no c455 rfl rfl rfl rfl) rfl rfl ?_
       refine DL.not (i:=15) rfl (Wn.no c455 rfl rfl rfl rfl) rfl rfl ?_
       refine DL.not (i:=16) rfl (Wn.no c455 rfl rfl rfl rfl) rfl rfl ?_
       refine DL.not (i:=17) rfl (Wn.no c455 rfl rfl rfl rfl) rfl rfl ?_
       refine DL.pure (v:=.bool false) rfl (Wn.no c447 rfl rfl rfl rfl) rfl rfl rfl (p_pick_f c455 rfl rfl rfl) ?_
       obtain rfl:=Option.some.inj h479
       exact DL.weak J454 (Sub.cons rfl (Sub.cons rfl (Sub.cons rfl (Sub.cons rfl (Sub.cons rfl (Sub.cons rfl (Sub.cons rfl (Sub.cons rfl (Sub.nil _)))))))))
  ·
   replace c321:=Bool.eq_false_iff.mpr c321
   have h484:=ite_false c321 h
   refine TT.cond_false (x:=sub [1,1,1,1,1,1,1,0,1,0,0,0,1,0] B8) (y:=sub [1,1,1,1,1,1,1,0,1,0,0,0,1,1] B8) rfl c321 ?_
   refine TT.exit rfl ?_
   obtain rfl:=Option.some.inj h484
   exact TT.weak (hk) (Sub.nil _)

def law29_TermsLearns.f (a0 : List Tm) (a1 : Tm) : Option (Bool):=(ref29_Much.f a0).bind fun t2 => (if t2 = true then (some true) else ((ref29_Size.f (Tm.fuel a1) a1 301).bind fun t13 => some (decide (300 < t13)))).bind fun q6 => if q6 = true then ((law29_known.f).bind fun t18 => some t18) else ((terms_Learn.f a0).bind fun (t22_0,t22_1) => (terms_Can.f a1 a0).bind fun t27 => (law29_all.f a0).bind fun t30 => if (!t30) = true then ((if ((t22_0.length : Int) == 0) = true then ((law29_num.f t22_1).bind fun t42 => some (t42 == 2)) else (some false)).bind fun q36 => (if q36 = true then (some (!t27)) else (some false)).bind fun q47 => (if q47 = true then ((law29_known.f).bind fun t61 => some t61) else (some false)).bind fun q55 => some q55) else ((ref29_Learn.f a0).bind fun t66 => (law29_num.f t22_1).bind fun t71 => (if (t71 != 0) = true then (some true) else (some ((t22_0.length : Int) != (t66.length : Int)))).bind fun q75 => (if q75 = true then (some true) else ((ref29_May.f a1).bind fun t90 => (if t90 = true then ((ref29_Can.f a1 a0).bind fun t100 => some t100) else (some false)).bind fun q94 => some (!(t27 == q94)))).bind fun q83 => if q83 = true then (some false) else (onw (law29_TermsLearns.L0 t22_0 t66 ((t22_0.length : Int).toNat + 1) 0) (fun _ => (law29_known.f).bind fun t489 => some t489) (fun r => some r))))
set_option maxRecDepth 20000 in
theorem law29_TermsLearns.ok {a0 : List Tm} {a1 : Tm} {a0_v : Value} {a1_2 : Value} {r : Bool} (h : law29_TermsLearns.f a0 a1 = some r) {M : Mem} (w : World) (hM : Ext M (heapOf w)) (hG : Glob M) (hr_a0 : RowS ShTm M a0_v a0) (hr_a1_2 : RowS ShTm M a1_2 (Tree.kids a1)) : Calls Tryd.prog 8 #[a0_v,.agg (Tm.ce a1 a1_2)] w (Post (fun u => u = .bool r) w):=by
 unfold law29_TermsLearns.f at h
 have hE:=Env.start hM
 refine calls_of_TT (N:=114) (S:=[(0,a0_v),(1,.agg (Tm.ce a1 a1_2))]) (c:=B8) Tryd.func8 rfl rfl rfl (by simp) ?_
 show TT _ _ _ _ _ _ [.code (sub [] B8)] _ _
 refine TT.seq (x:=sub [0] B8) (y:=sub [1] B8) ?_
 refine TT.rg [0,1] [(.alloc,none),kp] rfl rfl ?_
 refine DL.new (ob:=.cells ((Tm.ce a1 a1_2)) 25) (mk:=fun b => ptr b 0) (i:=0) rfl (Wn.none rfl) rfl rfl rfl (f_box (v:=.agg (Tm.ce a1 a1_2)) rfl rfl) ?_
 intro b1 hb1
 refine DL.pu 4 (.bool false) rfl (p_assign rfl rfl) ?_
 refine DL.nil ?_
 refine TT.seq (x:=sub [1,0] B8) (y:=sub [1,1] B8) ?_
 refine TT.seq (x:=sub [1,0,0] B8) (y:=sub [1,0,1] B8) ?_
 refine TT.rg [0,1,2,3,4,5,6] [kp,kq,kp,kq,kq,kp,kp] rfl rfl ?_
 refine DL.mv 12 (a0_v) rfl rfl rfl ?_
 obtain ⟨t2,h3,h4⟩:=bind_some h
 refine DL.qu 13 (.bool t2) rfl (f_callR rfl rfl (args_val (vs:=[a0_v]) rfl) (fun w => enter12 _ w) (fun w hc => ref29_Much.val h3 (M:=M) w (hE.ext hc) hr_a0)) ?_
 refine DL.mv 14 (.bool t2) rfl rfl rfl ?_
 obtain ⟨q6,h7,h8⟩:=bind_some h4
 refine DL.cut [(0,a0_v),(3,ptr b1 0),(18,.bool q6)] [] ?_ (fun J9 => ?_)
 ·
  refine DL.nil ?_
  by_cases c16 : q6 = true
  ·
   have h17:=ite_true c16 h8
   refine TT.cond_true (x:=sub [1,0,1,0] B8) (y:=sub [1,0,1,1] B8) rfl c16 ?_
   refine TT.seq (x:=sub [1,0,1,0,0] B8) (y:=sub [1,0,1,0,1] B8) ?_
   refine TT.rg [0,1] [kq,kp] rfl rfl ?_
   obtain ⟨t18,h19,h20⟩:=bind_some h17
   refine DL.qu 19 (.bool t18) rfl (f_callR rfl rfl (args_val (vs:=[]) rfl) (fun w => enter11 _ w) (fun w hc => law29_known.val h19 (M:=M) w (hE.ext hc) hG)) ?_
   refine DL.pu 4 (.bool t18) rfl (p_assign rfl rfl) ?_
   refine DL.nil ?_
   obtain rfl:=Option.some.inj h20
   exact retnE (rs:=[.tmp 4]) (vs:=[.bool t18]) hE.base Tryd.func8 rfl rfl rfl (res_cons (ResV.tmp rfl) res_nil) rfl
  ·
   replace c16:=Bool.eq_false_iff.mpr c16
   have h21:=ite_false c16 h8
   refine TT.cond_false (x:=sub [1,0,1,0] B8) (y:=sub [1,0,1,1] B8) rfl c16 ?_
   refine TT.skip ?_
   refine TT.seq (x:=sub [1,1,0] B8) (y:=sub [1,1,1] B8) ?_
   refine TT.rg [0,1,2,3,4,5,6] [kp,kk,kp,kp,kp,kp,kp] rfl rfl ?_
   refine DL.mv 21 (a0_v) rfl rfl rfl ?_
   obtain ⟨⟨t22_0,t22_1⟩,h23,h24⟩:=bind_some h21
   refine DL.callF (G:=Value) (u:=fun g => .tuple #[g,.int .i64 t22_1]) (Q:=fun g M_ => (RowS ShTm M_ g t22_0)) (A:=[(some b1,.cells ((Tm.ce a1 a1_2)) 25 (0,0))]) (J:=[]) (fun J25 => ((some b1,.cells ((Tm.ce a1 a1_2)) 25 (0,0)) :: J25)) (Nat.le_refl _) hE.nil (List.append_nil _).symm (fun _ => rfl) (by simp [kind_mk,num_mk]) (i:=1) rfl (Wn.none rfl) rfl rfl rfl rfl rfl rfl (args_val (vs:=[a0_v]) rfl) (fun w => enter23 _ w) (fun w hc hI => terms_Learn.ok h23 (M:=M) w hI hG hr_a0) ?_
   rintro t22_0_v M25 J25 hE25 hx25 hr_t22_0
   show DL _ _ _ _ _ _ _ _ _ _ _ _ ((some b1,.cells ((Tm.ce a1 a1_2)) 25 (0,0)) :: J25)
   refine DL.mv 20 (.tuple #[t22_0_v,.int .i64 t22_1]) rfl rfl rfl ?_
   refine DL.pu 23 (t22_0_v) rfl (p_extract rfl rfl rfl) ?_
   refine DL.pu 24 (.int .i64 t22_1) rfl (p_extract rfl rfl rfl) ?_
   refine DL.pu 5 (t22_0_v) rfl (p_assign rfl rfl) ?_
   refine DL.pu 6 (.int .i64 t22_1) rfl (p_assign rfl rfl) ?_
   refine DL.nil ?_
   refine TT.settle (A:=[(some b1,.cells ((Tm.ce a1 a1_2)) 25 (0,0))]) (J:=J25) hE25 ?_
   intro I26 hE26 hxI26
   refine TT.seq (x:=sub [1,1,1,0] B8) (y:=sub [1,1,1,1] B8) ?_
   refine TT.rg [0,1,2,3] [kq,kp,kq,kp] rfl rfl ?_
   refine DL.qu 25 (.agg (Tm.ce a1 a1_2)) rfl (f_loadA (j:=0) ty_a25 ty_s25 rfl rfl rfl rfl) ?_
   refine DL.mv 26 (a0_v) rfl rfl rfl ?_
   obtain ⟨t27,h28,h29⟩:=bind_some h24
   refine DL.qu 27 (.bool t27) rfl (f_callR rfl rfl (args_val (vs:=[.agg (Tm.ce a1 a1_2),a0_v]) rfl) (fun w => enter16 _ w) (fun w hc => terms_Can.val h28 (M:=M25) w (hE26.ext hc) (Glob.mono hG hx25) (RowS.mono hr_a1_2 hx25) (RowS.mono hr_a0 hx25))) ?_
   refine DL.pu 7 (.bool t27) rfl (p_assign rfl rfl) ?_
   refine DL.nil ?_
   refine TT.seq (x:=sub [1,1,1,1,0] B8) (y:=sub [1,1,1,1,1] B8) ?_
   refine TT.seq (x:=sub [1,1,1,1,0,0] B8) (y:=sub [1,1,1,1,0,1] B8) ?_
   refine TT.rg [0,1,2] [kp,kq,kp] rfl rfl ?_
   refine DL.mv 28 (a0_v) rfl rfl rfl ?_
   obtain ⟨t30,h31,h32⟩:=bind_some h29
   refine DL.qu 29 (.bool t30) rfl (f_callR rfl rfl (args_val (vs:=[a0_v]) rfl) (fun w => enter14 _ w) (fun w hc => law29_all.val h31 (M:=M25) w (hE26.ext hc) (RowS.mono hr_a0 hx25))) ?_
   refine DL.pu 30 (.bool (!t30)) rfl (p_not rfl rfl) ?_
   refine DL.nil ?_
   by_cases c33 : (!t30) = true
   ·
    have h34:=ite_true c33 h32
    refine TT.cond_true (x:=sub [1,1,1,1,0,1,0] B8) (y:=sub [1,1,1,1,0,1,1] B8) rfl c33 ?_
    refine TT.seq (x:=sub [1,1,1,1,0,1,0,0] B8) (y:=sub [1,1,1,1,0,1,0,1] B8) ?_
    refine TT.rg [0,1,2,3,4,5,6,7,8,9,10,11,12,13,14,15] [kp,kp,kp,kp,kp,kq,kp,kp,kp,kp,kp,kp,kp,kq,kp,kp] rfl rfl ?_
    refine DL.mv 31 (t22_0_v) rfl rfl rfl ?_
    refine DL.pu 32 (.int .i64 (t22_0.length : Int)) rfl (p_slLen ty_u22 (RowS.sl hr_t22_0) rfl rfl) ?_
    refine DL.pu 33 (.bool ((t22_0.length : Int) == 0)) rfl (p_eql rfl rfl rfl) ?_
    refine DL.mv 34 (.bool ((t22_0.length : Int) == 0)) rfl rfl rfl ?_
    obtain ⟨q36,h37,h38⟩:=bind_some h34
    refine DL.cut [(7,.bool t27),(38,.bool q36)] [8,9,10,11,12,13,14,15] ?_ (fun J39 => ?_)
    ·
     refine DL.mv 39 (.bool q36) rfl rfl rfl ?_
     obtain ⟨q47,h48,h49⟩:=bind_some h38
     refine DL.cut [(42,.bool q47)] [12,13,14,15] ?_ (fun J50 => ?_)
     ·
      refine DL.mv 43 (.bool q47) rfl rfl rfl ?_
      obtain ⟨q55,h56,h57⟩:=bind_some h49
      refine DL.cut [(45,.bool q55)] [15] ?_ (fun J58 => ?_)
      ·
       refine DL.pu 4 (.bool q55) rfl (p_assign rfl rfl) ?_
       refine DL.nil ?_
       obtain rfl:=Option.some.inj h57
       exact retnE (rs:=[.tmp 4]) (vs:=[.bool q55]) hE26.base Tryd.func8 rfl rfl rfl (res_cons (ResV.tmp rfl) res_nil) rfl
      ·
       by_cases c59 : q47 = true
       ·
        have h60:=ite_true c59 h56
        obtain ⟨t61,h62,h63⟩:=bind_some h60
        refine DL.quiet (v:=.bool t61) rfl (Wn.yes c59 rfl rfl rfl rfl) rfl rfl rfl (f_callR rfl rfl (args_val (vs:=[]) rfl) (fun w => enter11 _ w) (fun w hc => law29_known.val h62 (M:=M25) w (hE26.ext hc) (Glob.mono hG hx25))) ?_
        refine DL.pu 45 (.bool t61) rfl (p_pick_t c59 rfl rfl rfl) ?_
        obtain rfl:=Option.some.inj h63
        exact DL.weak J58 (Sub.cons rfl (Sub.nil _))
       ·
        replace c59:=Bool.eq_false_iff.mpr c59
        have h64:=ite_false c59 h56
        refine DL.not (i:=13) rfl (Wn.no c59 rfl rfl rfl rfl) rfl rfl ?_
        refine DL.pu 45 (.bool false) rfl (p_pick_f c59 rfl rfl rfl) ?_
        obtain rfl:=Option.some.inj h64
        exact DL.weak J58 (Sub.cons rfl (Sub.nil _))
     ·
      by_cases c51 : q36 = true
      ·
       have h52:=ite_true c51 h48
       refine DL.pure (v:=.bool t27) rfl (Wn.yes c51 rfl rfl rfl rfl) rfl rfl rfl (p_move rfl rfl) ?_
       refine DL.pure (v:=.bool (!t27)) rfl (Wn.yes c51 rfl rfl rfl rfl) rfl rfl rfl (p_not rfl rfl) ?_
       refine DL.pu 42 (.bool (!t27)) rfl (p_pick_t c51 rfl rfl rfl) ?_
       obtain rfl:=Option.some.inj h52
       exact DL.weak J50 (Sub.cons rfl (Sub.nil _))
      ·
       replace c51:=Bool.eq_false_iff.mpr c51
       have h53:=ite_false c51 h48
       refine DL.not (i:=9) rfl (Wn.no c51 rfl rfl rfl rfl) rfl rfl ?_
       refine DL.not (i:=10) rfl (Wn.no c51 rfl rfl rfl rfl) rfl rfl ?_
       refine DL.pu 42 (.bool false) rfl (p_pick_f c51 rfl rfl rfl) ?_
       obtain rfl:=Option.some.inj h53
       exact DL.weak J50 (Sub.cons rfl (Sub.nil _))
    ·
     by_cases c40 : ((t22_0.length : Int) == 0) = true
     ·
      have h41:=ite_true c40 h37
      refine DL.pure (v:=.int .i64 t22_1) rfl (Wn.yes c40 rfl rfl rfl rfl) rfl rfl rfl (p_move rfl rfl) ?_
      obtain ⟨t42,h43,h44⟩:=bind_some h41
      refine DL.quiet (v:=.int .i64 t42) rfl (Wn.yes c40 rfl rfl rfl rfl) rfl rfl rfl (f_callR rfl rfl (args_val (vs:=[.int .i64 t22_1]) rfl) (fun w => enter24 _ w) (fun w hc => law29_num.val h43 (M:=M25) w (hE26.ext hc) )) ?_
      refine DL.pure (v:=.bool (t42 == 2)) rfl (Wn.yes c40 rfl rfl rfl rfl) rfl rfl rfl (p_eql rfl rfl rfl) ?_
      refine DL.pu 38 (.bool (t42 == 2)) rfl (p_pick_t c40 rfl rfl rfl) ?_
      obtain rfl:=Option.some.inj h44
      exact DL.weak J39 (Sub.cons rfl (Sub.cons rfl (Sub.nil _)))
     ·
      replace c40:=Bool.eq_false_iff.mpr c40
      have h45:=ite_false c40 h37
      refine DL.not (i:=4) rfl (Wn.no c40 rfl rfl rfl rfl) rfl rfl ?_
      refine DL.not (i:=5) rfl (Wn.no c40 rfl rfl rfl rfl) rfl rfl ?_
      refine DL.not (i:=6) rfl (Wn.no c40 rfl rfl rfl rfl) rfl rfl ?_
      refine DL.pu 38 (.bool false) rfl (p_pick_f c40 rfl rfl rfl) ?_
      obtain rfl:=Option.some.inj h45
      exact DL.weak J39 (Sub.cons rfl (Sub.cons rfl (Sub.nil _)))
   ·
    replace c33:=Bool.eq_false_iff.mpr c33
    have h65:=ite_false c33 h32
    refine TT.cond_false (x:=sub [1,1,1,1,0,1,0] B8) (y:=sub [1,1,1,1,0,1,1] B8) rfl c33 ?_
    refine TT.skip ?_
    refine TT.seq (x:=sub [1,1,1,1,1,0] B8) (y:=sub [1,1,1,1,1,1] B8) ?_
    refine TT.rg [0,1,2] [kp,kk,kp] rfl rfl ?_
    refine DL.mv 46 (a0_v) rfl rfl rfl ?_
    obtain ⟨t66,h67,h68⟩:=bind_some h65
    refine DL.callF (G:=Value) (u:=fun g => g) (Q:=fun g M_ => (RowS ShTm M_ g t66)) (A:=[(some b1,.cells ((Tm.ce a1 a1_2)) 25 (0,0))]) (J:=[]) (fun J69 => ((some b1,.cells ((Tm.ce a1 a1_2)) 25 (0,0)) :: J69)) (Nat.le_refl _) hE26.nil (List.append_nil _).symm (fun _ => rfl) (by simp [kind_mk,num_mk]) (i:=1) rfl (Wn.none rfl) rfl rfl rfl rfl rfl rfl (args_val (vs:=[a0_v]) rfl) (fun w => enter25 _ w) (fun w hc hI => ref29_Learn.ok h67 (M:=M25) w hI (Glob.mono hG hx25) (RowS.mono hr_a0 hx25)) ?_
    rintro t66_v M69 J69 hE69 hx69 hr_t66
    show DL _ _ _ _ _ _ _ _ _ _ _ _ ((some b1,.cells ((Tm.ce a1 a1_2)) 25 (0,0)) :: J69)
    refine DL.pu 8 (t66_v) rfl (p_assign rfl rfl) ?_
    refine DL.nil ?_
    refine TT.settle (A:=[(some b1,.cells ((Tm.ce a1 a1_2)) 25 (0,0))]) (J:=J69) hE69 ?_
    intro I70 hE70 hxI70
    refine TT.seq (x:=sub [1,1,1,1,1,1,0] B8) (y:=sub [1,1,1,1,1,1,1] B8) ?_
    refine TT.seq (x:=sub [1,1,1,1,1,1,0,0] B8) (y:=sub [1,1,1,1,1,1,0,1] B8) ?_
    refine TT.rg [0,1,2,3,4,5,6,7,8,9,10,11,12,13,14,15,16,17,18,19,20] [kp,kq,kp,kp,kp,kp,kp,kp,kp,kp,kp,kp,kq,kq,kp,kq,kp,kq,kp,kp,kp] rfl rfl ?_
    refine DL.mv 48 (.int .i64 t22_1) rfl rfl rfl ?_
    obtain ⟨t71,h72,h73⟩:=bind_some h68
    refine DL.qu 49 (.int .i64 t71) rfl (f_callR rfl rfl (args_val (vs:=[.int .i64 t22_1]) rfl) (fun w => enter24 _ w) (fun w hc => law29_num.val h72 (M:=M69) w (hE70.ext hc) )) ?_
    refine DL.pu 50 (.bool (t71 != 0)) rfl (p_neq rfl rfl rfl) ?_
    refine DL.mv 51 (.bool (t71 != 0)) rfl rfl rfl ?_
    obtain ⟨q75,h76,h77⟩:=bind_some h73
    refine DL.cut [(0,a0_v),(3,ptr b1 0),(5,t22_0_v),(7,.bool t27),(8,t66_v),(57,.bool q75)] [10,11,12,13,14,15,16,17,18,19,20] ?_ (fun J78 => ?_)
    ·
     refine DL.mv 58 (.bool q75) rfl rfl rfl ?_
     obtain ⟨q83,h84,h85⟩:=bind_some h77
     refine DL.cut [(5,t22_0_v),(8,t66_v),(68,.bool q83)] [] ?_ (fun J86 => ?_)
     ·
      refine DL.nil ?_
      by_cases c104 : q83 = true
      ·
       have h105:=ite_true c104 h85
       refine TT.cond_true (x:=sub [1,1,1,1,1,1,0,1,0] B8) (y:=sub [1,1,1,1,1,1,0,1,1] B8) rfl c104 ?_
       refine TT.seq (x:=sub [1,1,1,1,1,1,0,1,0,0] B8) (y:=sub [1,1,1,1,1,1,0,1,0,1] B8) ?_
       refine TT.rg [0] [kp] rfl rfl ?_
       refine DL.pu 4 (.bool false) rfl (p_assign rfl rfl) ?_
       refine DL.nil ?_
       obtain rfl:=Option.some.inj h105
       exact retnE (rs:=[.tmp 4]) (vs:=[.bool false]) hE70.base Tryd.func8 rfl rfl rfl (res_cons (ResV.tmp rfl) res_nil) rfl
      ·
       replace c104:=Bool.eq_false_iff.mpr c104
       have h106:=ite_false c104 h85
       refine TT.cond_false (x:=sub [1,1,1,1,1,1,0,1,0] B8) (y:=sub [1,1,1,1,1,1,0,1,1] B8) rfl c104 ?_
       refine TT.skip ?_
       refine TT.seq (x:=sub [1,1,1,1,1,1,1,0] B8) (y:=sub [1,1,1,1,1,1,1,1] B8) ?_
       refine TT.seq (x:=sub [1,1,1,1,1,1,1,0,0] B8) (y:=sub [1,1,1,1,1,1,1,0,1] B8) ?_
       refine TT.rg [0] [kp] rfl rfl ?_
       refine DL.pu 9 (.int .i64 0) rfl (p_assign rfl rfl) ?_
       refine DL.nil ?_
       refine TT.block (c:=sub [1,1,1,1,1,1,1,0,1,0] B8) ?_
       refine TT.loop (c:=sub [1,1,1,1,1,1,1,0,1,0,0] B8) ?_
       rcases onw_some h106 with ⟨_,h485,h486⟩ | ⟨r488,h485,h486⟩
       ·
        refine TT.weak (law29_TermsLearns.L0_ok a1 a1_2 b1 t22_0 t22_0_v t66 t66_v hE70 (Glob.mono hG (hx25.trans hx69)) (RowS.mono hr_t22_0 hx69) hr_t66 ((t22_0.length : Int).toNat + 1) 0 (.inl ()) h485 (?_)) (Sub.cons rfl (Sub.cons rfl (Sub.cons rfl (Sub.nil _))))
        show TT _ _ _ _ _ _ _ _ _
        refine TT.seq (x:=sub [1,1,1,1,1,1,1,1,0] B8) (y:=sub [1,1,1,1,1,1,1,1,1] B8) ?_
        refine TT.rg [0,1] [kq,kp] rfl rfl ?_
        obtain ⟨t489,h490,h491⟩:=bind_some h486
        refine DL.qu 113 (.bool t489) rfl (f_callR rfl rfl (args_val (vs:=[]) rfl) (fun w => enter11 _ w) (fun w hc => law29_known.val h490 (M:=M69) w (hE70.ext hc) (Glob.mono hG (hx25.trans hx69)))) ?_
        refine DL.pu 4 (.bool t489) rfl (p_assign rfl rfl) ?_
        refine DL.nil ?_
        obtain rfl:=Option.some.inj h491
        exact retnE (rs:=[.tmp 4]) (vs:=[.bool t489]) hE70.base Tryd.func8 rfl rfl rfl (res_cons (ResV.tmp rfl) res_nil) rfl
       ·
        obtain rfl:=Option.some.inj h486
        exact TT.weak (law29_TermsLearns.L0_ok a1 a1_2 b1 t22_0 t22_0_v t66 t66_v hE70 (Glob.mono hG (hx25.trans hx69)) (RowS.mono hr_t22_0 hx69) hr_t66 ((t22_0.length : Int).toNat + 1) 0 (.inr r488) h485 rfl) (Sub.cons rfl (Sub.cons rfl (Sub.cons rfl (Sub.nil _))))
     ·
      by_cases c87 : q75 = true
      ·
       have h88:=ite_true c87 h84
       refine DL.not (i:=11) rfl (Wn.yes c87 rfl rfl rfl rfl) rfl rfl ?_
       refine DL.not (i:=12) rfl (Wn.yes c87 rfl rfl rfl rfl) rfl rfl ?_
       refine DL.not (i:=13) rfl (Wn.yes c87 rfl rfl rfl rfl) rfl rfl ?_
       refine DL.not (i:=14) rfl (Wn.yes c87 rfl rfl rfl rfl) rfl rfl ?_
       refine DL.not (i:=15) rfl (Wn.undef rfl rfl rfl) rfl rfl ?_
       refine DL.not (i:=16) rfl (Wn.undef rfl rfl rfl) rfl rfl ?_
       refine DL.not (i:=17) rfl (Wn.undef rfl rfl rfl) rfl rfl ?_
       refine DL.not (i:=18) rfl (Wn.yes c87 rfl rfl rfl rfl) rfl rfl ?_
       refine DL.not (i:=19) rfl (Wn.yes c87 rfl rfl rfl rfl) rfl rfl ?_
       refine DL.pu 68 (.bool true) rfl (p_pick_t c87 rfl rfl rfl) ?_
       obtain rfl:=Option.some.inj h88
       exact DL.weak J86 (Sub.cons rfl (Sub.cons rfl (Sub.cons rfl (Sub.nil _))))
      ·
       replace c87:=Bool.eq_false_iff.mpr c87
       have h89:=ite_false c87 h84
       refine DL.pure (v:=.bool t27) rfl (Wn.no c87 rfl rfl rfl rfl) rfl rfl rfl (p_move rfl rfl) ?_
       refine DL.quiet (v:=.agg (Tm.ce a1 a1_2)) rfl (Wn.no c87 rfl rfl rfl rfl) rfl rfl rfl (f_loadA (j:=0) ty_a25 ty_s25 rfl rfl rfl rfl) ?_
       obtain ⟨t90,h91,h92⟩:=bind_some h89
       refine DL.quiet (v:=.bool t90) rfl (Wn.no c87 rfl rfl rfl rfl) rfl rfl rfl (f_callR rfl rfl (args_val (vs:=[.agg (Tm.ce a1 a1_2)]) rfl) (fun w => enter15 _ w) (fun w hc => ref29_May.val h91 (M:=M69) w (hE70.ext hc) (RowS.mono hr_a1_2 (hx25.trans hx69)))) ?_
       refine DL.pure (v:=.bool t90) rfl (Wn.no c87 rfl rfl rfl rfl) rfl rfl rfl (p_move rfl rfl) ?_
       obtain ⟨q94,h95,h96⟩:=bind_some h92
       refine DL.cut [(5,t22_0_v),(8,t66_v),(58,.bool q75),(59,.bool t27),(66,.bool q94)] [19,20] ?_ (fun J97 => ?_)
       ·
        refine DL.pure (v:=.bool (!(t27 == q94))) rfl (Wn.no c87 rfl rfl rfl rfl) rfl rfl rfl (p_neb ty_u4 rfl rfl rfl) ?_
        refine DL.pu 68 (.bool (!(t27 == q94))) rfl (p_pick_f c87 rfl rfl rfl) ?_
        obtain rfl:=Option.some.inj h96
        exact DL.weak J86 (Sub.cons rfl (Sub.cons rfl (Sub.cons rfl (Sub.nil _))))
       ·
        by_cases c98 : t90 = true
        ·
         have h99:=ite_true c98 h95
         refine DL.quiet (v:=.agg (Tm.ce a1 a1_2)) rfl (Wn.yes c98 rfl rfl rfl rfl) rfl rfl rfl (f_loadA (j:=0) ty_a25 ty_s25 rfl rfl rfl rfl) ?_
         refine DL.pure (v:=a0_v) rfl (Wn.yes c98 rfl rfl rfl rfl) rfl rfl rfl (p_move rfl rfl) ?_
         obtain ⟨t100,h101,h102⟩:=bind_some h99
         refine DL.quiet (v:=.bool t100) rfl (Wn.yes c98 rfl rfl rfl rfl) rfl rfl rfl (f_callR rfl rfl (args_val (vs:=[.agg (Tm.ce a1 a1_2),a0_v]) rfl) (fun w => enter26 _ w) (fun w hc => ref29_Can.val h101 (M:=M69) w (hE70.ext hc) (Glob.mono hG (hx25.trans hx69)) (RowS.mono hr_a1_2 (hx25.trans hx69)) (RowS.mono hr_a0 (hx25.trans hx69)))) ?_
         refine DL.pure (v:=.bool t100) rfl (Wn.no c87 rfl rfl rfl rfl) rfl rfl rfl (p_pick_t c98 rfl rfl rfl) ?_
         obtain rfl:=Option.some.inj h102
         exact DL.weak J97 (Sub.cons rfl (Sub.cons rfl (Sub.cons rfl (Sub.cons rfl (Sub.cons rfl (Sub.nil _))))))
        ·
         replace c98:=Bool.eq_false_iff.mpr c98
         have h103:=ite_false c98 h95
         refine DL.not (i:=15) rfl (Wn.no c98 rfl rfl rfl rfl) rfl rfl ?_
         refine DL.not (i:=16) rfl (Wn.no c98 rfl rfl rfl rfl) rfl rfl ?_
         refine DL.not (i:=17) rfl (Wn.no c98 rfl rfl rfl rfl) rfl rfl ?_
         refine DL.pure (v:=.bool false) rfl (Wn.no c87 rfl rfl rfl rfl) rfl rfl rfl (p_pick_f c98 rfl rfl rfl) ?_
         obtain rfl:=Option.some.inj h103
         exact DL.weak J97 (Sub.cons rfl (Sub.cons rfl (Sub.cons rfl (Sub.cons rfl (Sub.cons rfl (Sub.nil _))))))
    ·
     by_cases c79 : (t71 != 0) = true
     ·
      have h80:=ite_true c79 h76
      refine DL.not (i:=4) rfl (Wn.yes c79 rfl rfl rfl rfl) rfl rfl ?_
      refine DL.not (i:=5) rfl (Wn.yes c79 rfl rfl rfl rfl) rfl rfl ?_
      refine DL.not (i:=6) rfl (Wn.yes c79 rfl rfl rfl rfl) rfl rfl ?_
      refine DL.not (i:=7) rfl (Wn.yes c79 rfl rfl rfl rfl) rfl rfl ?_
      refine DL.not (i:=8) rfl (Wn.yes c79 rfl rfl rfl rfl) rfl rfl ?_
      refine DL.pu 57 (.bool true) rfl (p_pick_t c79 rfl rfl rfl) ?_
      obtain rfl:=Option.some.inj h80
      exact DL.weak J78 (Sub.cons rfl (Sub.cons rfl (Sub.cons rfl (Sub.cons rfl (Sub.cons rfl (Sub.cons rfl (Sub.nil _)))))))
     ·
      replace c79:=Bool.eq_false_iff.mpr c79
      have h81:=ite_false c79 h76
      refine DL.pure (v:=t22_0_v) rfl (Wn.no c79 rfl rfl rfl rfl) rfl rfl rfl (p_move rfl rfl) ?_
      refine DL.pure (v:=.int .i64 (t22_0.length : Int)) rfl (Wn.no c79 rfl rfl rfl rfl) rfl rfl rfl (p_slLen ty_u22 (RowS.sl (RowS.mono hr_t22_0 hx69)) rfl rfl) ?_
      refine DL.pure (v:=t66_v) rfl (Wn.no c79 rfl rfl rfl rfl) rfl rfl rfl (p_move rfl rfl) ?_
      refine DL.pure (v:=.int .i64 (t66.length : Int)) rfl (Wn.no c79 rfl rfl rfl rfl) rfl rfl rfl (p_slLen ty_u22 (RowS.sl hr_t66) rfl rfl) ?_
      refine DL.pure (v:=.bool ((t22_0.length : Int) != (t66.length : Int))) rfl (Wn.no c79 rfl rfl rfl rfl) rfl rfl rfl (p_neq rfl rfl rfl) ?_
      refine DL.pu 57 (.bool ((t22_0.length : Int) != (t66.length : Int))) rfl (p_pick_f c79 rfl rfl rfl) ?_
      obtain rfl:=Option.some.inj h81
      exact DL.weak J78 (Sub.cons rfl (Sub.cons rfl (Sub.cons rfl (Sub.cons rfl (Sub.cons rfl (Sub.cons rfl (Sub.nil _)))))))
 ·
  by_cases c10 : t2 = true
  ·
   have h11:=ite_true c10 h7
   refine DL.not (i:=3) rfl (Wn.yes c10 rfl rfl rfl rfl) rfl rfl ?_
   refine DL.not (i:=4) rfl (Wn.yes c10 rfl rfl rfl rfl) rfl rfl ?_
   refine DL.not (i:=5) rfl (Wn.yes c10 rfl rfl rfl rfl) rfl rfl ?_
   refine DL.pu 18 (.bool true) rfl (p_pick_t c10 rfl rfl rfl) ?_
   obtain rfl:=Option.some.inj h11
   exact DL.weak J9 (Sub.cons rfl (Sub.cons rfl (Sub.cons rfl (Sub.nil _))))
  ·
   replace c10:=Bool.eq_false_iff.mpr c10
   have h12:=ite_false c10 h7
   refine DL.quiet (v:=.agg (Tm.ce a1 a1_2)) rfl (Wn.no c10 rfl rfl rfl rfl) rfl rfl rfl (f_loadA (j:=0) ty_a25 ty_s25 rfl rfl rfl rfl) ?_
   obtain ⟨t13,h14,h15⟩:=bind_some h12
   refine DL.quiet (v:=.int .i64 t13) rfl (Wn.no c10 rfl rfl rfl rfl) rfl rfl rfl (f_callR rfl rfl (args_val (vs:=[.agg (Tm.ce a1 a1_2),.int .i64 301]) rfl) (fun w => enter13 _ w) (fun w hc => ref29_Size.val h14 (M:=M) w (hE.ext hc) hr_a1_2)) ?_
   refine DL.pure (v:=.bool (decide (300 < t13))) rfl (Wn.no c10 rfl rfl rfl rfl) rfl rfl rfl (p_gtr rfl rfl rfl) ?_
   refine DL.pu 18 (.bool (decide (300 < t13))) rfl (p_pick_f c10 rfl rfl rfl) ?_
   obtain rfl:=Option.some.inj h15
   exact DL.weak J9 (Sub.cons rfl (Sub.cons rfl (Sub.cons rfl (Sub.nil _))))
end Go.Proofs.YtfbogkhgfaibbaaDoor
