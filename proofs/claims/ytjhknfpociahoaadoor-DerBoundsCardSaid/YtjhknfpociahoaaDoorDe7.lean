import Derived.Test.YtjhknfpociahoaaDoorDe6
namespace Go.Proofs.YtjhknfpociahoaaDoor
open Go Go.HW Go.RowKit
set_option linter.unusedVariables false
set_option linter.unusedSimpArgs false

/-! ### escutcheon/escutcheonlaw13.DerBounds: function 7 -/
noncomputable def B7 : Code:=bodyOf Tryd.f7
def law13_DerBounds.L0 : Nat → Int → Der → Option (Der)
 | 0,_,_ => none
 | k + 1,x2_7,y_8 => if (decide (x2_7 < 12)) = true then ((der_Seq.f [y_8]).bind fun t76 => law13_DerBounds.L0 k (IntKind.i64.wrap (x2_7 + 1)) t76) else (some y_8)
set_option maxRecDepth 20000 in
theorem law13_DerBounds.L0_ok (b5 : Nat) {R : Ending → World → Prop} {w0 : World} {M0 Mb : Mem} {K : List Item} :
  ∀ (k : Nat) (M I : Mem) (hE : Env w0 M0 M I) (hx : Ext Mb M) (x2_7 : Int) (y_8 : Der) (y_8_3 : Value) (y_8_5 : Value) (y_8_6 : Value) (r0_ : Der) (hr_y_8_3 : IntRow M .u8 y_8_3 (Der.bytes y_8)) (hr_y_8_5 : IntRow M .u64 y_8_5 (Der.arcs y_8)) (hr_y_8_6 : RowS ShDer M y_8_6 (Tree.kids y_8)) (h : law13_DerBounds.L0 k x2_7 y_8 = some r0_) (hk : ∀ (M' I' : Mem),Env w0 M0 M' I' → Ext Mb M' → ∀ (z_b5_70_3 : Value),∀ (z_b5_70_5 : Value),∀ (z_b5_70_6 : Value),IntRow M' .u8 z_b5_70_3 (Der.bytes r0_) → IntRow M' .u64 z_b5_70_5 (Der.arcs r0_) → RowS ShDer M' z_b5_70_6 (Tree.kids r0_) → TT Tryd.prog 7 R 165 w0 I' K [(1,ptr b5 0)] [(some b5,.cells ((Der.ce r0_ z_b5_70_3 z_b5_70_5 z_b5_70_6)) 27 (0,0))]),
   TT Tryd.prog 7 R 165 w0 I (.code (sub [1,1,0,1,0,0] B7) :: .inLoop (sub [1,1,0,1,0,0] B7) :: .inBlock 0 :: K) [(1,ptr b5 0),(2,.int .i64 x2_7)] [(some b5,.cells ((Der.ce y_8 y_8_3 y_8_5 y_8_6)) 27 (0,0))]:=by
 intro k
 induction k with
 | zero => intro M I hE hx x2_7 y_8 y_8_3 y_8_5 y_8_6 r0_ hr_y_8_3 hr_y_8_5 hr_y_8_6 h; simp [law13_DerBounds.L0] at h
 | succ k ih =>
  intro M I hE hx x2_7 y_8 y_8_3 y_8_5 y_8_6 r0_ hr_y_8_3 hr_y_8_5 hr_y_8_6 h hk
  unfold law13_DerBounds.L0 at h
  refine TT.seq (x:=sub [1,1,0,1,0,0,0] B7) (y:=sub [1,1,0,1,0,0,1] B7) ?_
  refine TT.seq (x:=sub [1,1,0,1,0,0,0,0] B7) (y:=sub [1,1,0,1,0,0,0,1] B7) ?_
  refine TT.rg [0,1] [kp,kp] rfl rfl ?_
  refine DL.mv 27 (.int .i64 x2_7) rfl rfl rfl ?_
  refine DL.pu 28 (.bool (decide (x2_7 < 12))) rfl (p_lss rfl rfl rfl) ?_
  refine DL.nil ?_
  by_cases c71 : (decide (x2_7 < 12)) = true
  ·
   have h72:=ite_true c71 h
   refine TT.cond_true (x:=sub [1,1,0,1,0,0,0,1,0] B7) (y:=sub [1,1,0,1,0,0,0,1,1] B7) rfl c71 ?_
   refine TT.skip ?_
   refine TT.seq (x:=sub [1,1,0,1,0,0,1,0] B7) (y:=sub [1,1,0,1,0,0,1,1] B7) ?_
   refine TT.block (c:=sub [1,1,0,1,0,0,1,0,0] B7) ?_
   refine TT.rg [0,1,2,3] [kq,kk,kk,(.store,none)] rfl rfl ?_
   refine DL.qu 31 (.agg (Der.ce y_8 y_8_3 y_8_5 y_8_6)) rfl (f_loadA (j:=0) ty_a27 ty_s27 rfl rfl rfl rfl) ?_
   refine DL.newRowS (s:=ShDer) (zs:=[y_8]) (cells:=[.int .i64 (Der.kind y_8),.bool (Der.flag y_8),.int .i64 (Der.num y_8),y_8_3,str (Der.text y_8),y_8_5,y_8_6]) (n:=1) (A:=[(some b5,.cells ((Der.ce y_8 y_8_3 y_8_5 y_8_6)) 27 (0,0))]) (J:=[]) (fun J75 => ((some b5,.cells ((Der.ce y_8 y_8_3 y_8_5 y_8_6)) 27 (0,0)) :: J75)) (Nat.le_refl _) hE.nil (List.append_nil _).symm (fun _ => rfl) rfl (by decide) rfl (fun i x hx => by match i,hx with | 0,hx => cases hx; exact (Der.cl (t:=y_8) hr_y_8_3 hr_y_8_5 hr_y_8_6) | k + 1,hx => simp at hx) (i:=1) rfl (Wn.none rfl) rfl rfl rfl (f_buildS (n:=1) (vs:=[(0,.agg (Der.ce y_8 y_8_3 y_8_5 y_8_6))]) elem25 rfl rfl (by kernel_rfl) rfl (args_val2 rfl)) ?_
   intro v75 M75 J75 hE75 hx75 hr_v75
   show DL _ _ _ _ _ _ _ _ _ _ _ _ ((some b5,.cells ((Der.ce y_8 y_8_3 y_8_5 y_8_6)) 27 (0,0)) :: J75)
   obtain ⟨t76,h77,h78⟩:=bind_some h72
   refine DL.callF (G:=Value × Value × Value) (u:=fun g => .agg (Der.ce t76 (g.1) (g.2.1) (g.2.2))) (Q:=fun g M_ => (IntRow M_ .u8 (g.1) (Der.bytes t76)) ∧ (IntRow M_ .u64 (g.2.1) (Der.arcs t76)) ∧ (RowS ShDer M_ (g.2.2) (Tree.kids t76))) (A:=[(some b5,.cells ((Der.ce y_8 y_8_3 y_8_5 y_8_6)) 27 (0,0))]) (J:=J75) (fun J79 => ((some b5,.cells ((Der.ce y_8 y_8_3 y_8_5 y_8_6)) 27 (0,0)) :: J79)) (Nat.le_refl _) hE75 rfl (fun _ => rfl) (by simp) (i:=2) rfl (Wn.none rfl) rfl rfl rfl rfl rfl rfl (args_val (vs:=[v75]) rfl) (fun w => enter22 _ w) (fun w hc hI => der_Seq.ok h77 (M:=M75) w hI hr_v75) ?_
   rintro ⟨t76_3,t76_5,t76_6⟩ M79 J79 hE79 hx79 ⟨hr_t76_3,hr_t76_5,hr_t76_6⟩
   show DL _ _ _ _ _ _ _ _ _ _ _ _ ((some b5,.cells ((Der.ce y_8 y_8_3 y_8_5 y_8_6)) 27 (0,0)) :: J79)
   refine DL.put (H':=((some b5,.cells ((Der.ce t76 t76_3 t76_5 t76_6)) 27 (0,0)) :: J79)) (i:=3) rfl (Wn.none rfl) rfl rfl (f_storeA (j:=0) ty_s27 rfl rfl rfl (one_cons trivial (one_cons trivial (one_cons trivial (one_cons (sl_one (RowV.sl hr_t76_3)) (one_cons trivial (one_cons (sl_one (RowV.sl hr_t76_5)) (one_cons (sl_one (RowS.sl hr_t76_6)) one_nil))))))) rfl rfl rfl) (keep_none rfl) ?_
   refine DL.nil ?_
   refine TT.settle (A:=[(some b5,.cells ((Der.ce t76 t76_3 t76_5 t76_6)) 27 (0,0))]) (J:=J79) hE79 ?_
   intro I80 hE80 hxI80
   refine TT.inBlock ?_
   refine TT.rg [0,1,2] [kp,kp,kp] rfl rfl ?_
   refine DL.mv 29 (.int .i64 x2_7) rfl rfl rfl ?_
   refine DL.pu 30 (.int .i64 (IntKind.i64.wrap (x2_7 + 1))) rfl (p_add rfl rfl rfl) ?_
   refine DL.pu 2 (.int .i64 (IntKind.i64.wrap (x2_7 + 1))) rfl (p_assign rfl rfl) ?_
   refine DL.nil ?_
   refine TT.inLoop ?_
   exact TT.weak (ih M79 I80 hE80 ((hx.trans hx75).trans hx79) (IntKind.i64.wrap (x2_7 + 1)) t76 t76_3 t76_5 t76_6 r0_ hr_t76_3 hr_t76_5 hr_t76_6 h78 hk) (Sub.cons rfl (Sub.cons rfl (Sub.nil _)))
  ·
   replace c71:=Bool.eq_false_iff.mpr c71
   have h81:=ite_false c71 h
   refine TT.cond_false (x:=sub [1,1,0,1,0,0,0,1,0] B7) (y:=sub [1,1,0,1,0,0,0,1,1] B7) rfl c71 ?_
   refine TT.exit rfl ?_
   obtain rfl:=Option.some.inj h81
   exact TT.weak (hk M I hE hx y_8_3 y_8_5 y_8_6 hr_y_8_3 hr_y_8_5 hr_y_8_6) (Sub.cons rfl (Sub.nil _))

def law13_DerBounds.f : Option (Bool):=(der_Seq.f ([] : List Der)).bind fun t1 => (law13_DerBounds.L0 12 1 t1).bind fun z_b5_70 => (der_Bytes.f z_b5_70).bind fun (t85_0,t85_1) => (der_Seq.f [z_b5_70]).bind fun t93 => (der_Bytes.f t93).bind fun (t97_0,t97_1) => (der_Octets.f (List.replicate 64996 0)).bind fun t105 => (der_Bytes.f t105).bind fun (t109_0,t109_1) => (der_Octets.f (List.replicate 64997 0)).bind fun t117 => (der_Bytes.f t117).bind fun (t121_0,t121_1) => (der_Of.f t109_0).bind fun (t126_0,t126_1) => (der_Oid.f [1,39,2147483647]).bind fun t135 => (der_Bytes.f t135).bind fun (t139_0,t139_1) => (der_Oid.f [1,40]).bind fun t147 => (der_Bytes.f t147).bind fun (t151_0,t151_1) => (der_Oid.f [2,2147483647]).bind fun t159 => (der_Bytes.f t159).bind fun (t163_0,t163_1) => (der_Oid.f [3,1]).bind fun t171 => (der_Bytes.f t171).bind fun (t175_0,t175_1) => (der_Oid.f [2,2147483648]).bind fun t183 => (der_Bytes.f t183).bind fun (t187_0,t187_1) => (der_Octets.f (List.replicate 60000 0)).bind fun t195 => (der_Seq.f [t195,t195,t195]).bind fun t204 => (der_Bytes.f t204).bind fun (t208_0,t208_1) => (law13_num.f t85_1).bind fun t213 => (if (t213 == 0) = true then ((law13_num.f t97_1).bind fun t223 => some (t223 == 2)) else (some false)).bind fun q217 => (if q217 = true then ((law13_num.f t109_1).bind fun t234 => some (t234 == 0)) else (some false)).bind fun q228 => (if q228 = true then (some ((t109_0.length : Int) == 65000)) else (some false)).bind fun q239 => (if q239 = true then ((law13_num.f t121_1).bind fun t253 => some (t253 == 3)) else (some false)).bind fun q247 => (if q247 = true then ((law13_num.f t126_1).bind fun t264 => some (t264 == 0)) else (some false)).bind fun q258 => (if q258 = true then ((law13_num.f t139_1).bind fun t275 => some (t275 == 0)) else (some false)).bind fun q269 => (if q269 = true then ((law13_num.f t151_1).bind fun t286 => some (t286 == 2)) else (some false)).bind fun q280 => (if q280 = true then ((law13_num.f t163_1).bind fun t297 => some (t297 == 0)) else (some false)).bind fun q291 => (if q291 = true then ((law13_num.f t175_1).bind fun t308 => some (t308 == 2)) else (some false)).bind fun q302 => (if q302 = true then ((law13_num.f t187_1).bind fun t319 => some (t319 == 2)) else (some false)).bind fun q313 => (if q313 = true then ((law13_num.f t208_1).bind fun t330 => some (t330 == 3)) else (some false)).bind fun q324 => (if q324 = true then ((law13_known.f).bind fun t341 => some t341) else (some false)).bind fun q335 => some q335
set_option maxHeartbeats 1000000 in
set_option maxRecDepth 20000 in
theorem law13_DerBounds.ok {r : Bool} (h : law13_DerBounds.f = some r) {M : Mem} (w : World) (hM : Ext M (heapOf w)) (hG : Glob M) : Calls Tryd.prog 7 #[] w (Post (fun u => u = .bool r) w):=by
 unfold law13_DerBounds.f at h
 have hE:=Env.start hM
 refine calls_of_TT (N:=165) (S:=[]) (c:=B7) Tryd.func7 rfl rfl rfl (by simp) ?_
 show TT _ _ _ _ _ _ [.code (sub [] B7)] _ _
 refine TT.seq (x:=sub [0] B7) (y:=sub [1] B7) ?_
 refine TT.rg [0] [kp] rfl rfl ?_
 refine DL.pu 0 (.bool false) rfl (p_assign rfl rfl) ?_
 refine DL.nil ?_
 refine TT.seq (x:=sub [1,0] B7) (y:=sub [1,1] B7) ?_
 refine TT.rg [0,1,2] [kk,(.alloc,none),(.store,none)] rfl rfl ?_
 obtain ⟨t1,h2,h3⟩:=bind_some h
 refine DL.callF (G:=Value × Value × Value) (u:=fun g => .agg (Der.ce t1 (g.1) (g.2.1) (g.2.2))) (Q:=fun g M_ => (IntRow M_ .u8 (g.1) (Der.bytes t1)) ∧ (IntRow M_ .u64 (g.2.1) (Der.arcs t1)) ∧ (RowS ShDer M_ (g.2.2) (Tree.kids t1))) (A:=[]) (J:=[]) (fun J4 => (J4)) (Nat.le_refl _) hE.nil (List.append_nil _).symm (fun _ => rfl) (by simp) (i:=0) rfl (Wn.none rfl) rfl rfl rfl rfl rfl rfl (args_val (vs:=[.slice none 0 0]) rfl) (fun w => enter22 _ w) (fun w hc hI => der_Seq.ok h2 (M:=M) w hI (RowS.nil ShDer M)) ?_
 rintro ⟨t1_3,t1_5,t1_6⟩ M4 J4 hE4 hx4 ⟨hr_t1_3,hr_t1_5,hr_t1_6⟩
 show DL _ _ _ _ _ _ _ _ _ _ _ _ (J4)
 refine DL.new (ob:=.cells (#[.int .i64 0,.bool false,.int .i64 0,(.slice none 0 0),str ([] : List UInt8),(.slice none 0 0),(.slice none 0 0)]) 27) (mk:=fun b => ptr b 0) (i:=1) rfl (Wn.none rfl) rfl rfl rfl (f_alloc ty_z27 rfl) ?_
 intro b5 hb5
 refine DL.put (H':=((some b5,.cells ((Der.ce t1 t1_3 t1_5 t1_6)) 27 (0,0)) :: J4)) (i:=2) rfl (Wn.none rfl) rfl rfl (f_storeA (j:=0) ty_s27 rfl rfl rfl (one_cons trivial (one_cons trivial (one_cons trivial (one_cons (sl_one (RowV.sl hr_t1_3)) (one_cons trivial (one_cons (sl_one (RowV.sl hr_t1_5)) (one_cons (sl_one (RowS.sl hr_t1_6)) one_nil))))))) rfl rfl rfl) (keep_none rfl) ?_
 refine DL.nil ?_
 refine TT.settle (A:=[(some b5,.cells ((Der.ce t1 t1_3 t1_5 t1_6)) 27 (0,0))]) (J:=J4) hE4 ?_
 intro I6 hE6 hxI6
 refine TT.seq (x:=sub [1,1,0] B7) (y:=sub [1,1,1] B7) ?_
 refine TT.seq (x:=sub [1,1,0,0] B7) (y:=sub [1,1,0,1] B7) ?_
 refine TT.rg [0] [kp] rfl rfl ?_
 refine DL.pu 2 (.int .i64 1) rfl (p_assign rfl rfl) ?_
 refine DL.nil ?_
 refine TT.block (c:=sub [1,1,0,1,0] B7) ?_
 refine TT.loop (c:=sub [1,1,0,1,0,0] B7) ?_
 obtain ⟨z_b5_70,h82,h83⟩:=bind_some h3
 refine TT.weak (law13_DerBounds.L0_ok b5 12 M4 I6 hE6 (Ext.refl _) 1 t1 t1_3 t1_5 t1_6 z_b5_70 hr_t1_3 hr_t1_5 hr_t1_6 h82 (fun M84 I84 hE84 hx84 z_b5_70_3 z_b5_70_5 z_b5_70_6 hr_z_b5_70_3 hr_z_b5_70_5 hr_z_b5_70_6 => ?_)) (Sub.cons rfl (Sub.cons rfl (Sub.nil _)))
 refine TT.seq (x:=sub [1,1,1,0] B7) (y:=sub [1,1,1,1] B7) ?_
 refine TT.rg [0,1,2,3,4,5,6] [kq,kk,kp,kp,kp,kp,kp] rfl rfl ?_
 refine DL.qu 35 (.agg (Der.ce z_b5_70 z_b5_70_3 z_b5_70_5 z_b5_70_6)) rfl (f_loadA (j:=0) ty_a27 ty_s27 rfl rfl rfl rfl) ?_
 obtain ⟨⟨t85_0,t85_1⟩,h86,h87⟩:=bind_some h83
 refine DL.callF (G:=Value) (u:=fun g => .tuple #[g,.int .i64 t85_1]) (Q:=fun g M_ => (IntRow M_ .u8 g t85_0)) (A:=[(some b5,.cells ((Der.ce z_b5_70 z_b5_70_3 z_b5_70_5 z_b5_70_6)) 27 (0,0))]) (J:=[]) (fun J88 => ((some b5,.cells ((Der.ce z_b5_70 z_b5_70_3 z_b5_70_5 z_b5_70_6)) 27 (0,0)) :: J88)) (Nat.le_refl _) hE84.nil (List.append_nil _).symm (fun _ => rfl) (by simp) (i:=1) rfl (Wn.none rfl) rfl rfl rfl rfl rfl rfl (args_val (vs:=[.agg (Der.ce z_b5_70 z_b5_70_3 z_b5_70_5 z_b5_70_6)]) rfl) (fun w => enter12 _ w) (fun w hc hI => der_Bytes.ok h86 (M:=M84) w hI (Glob.mono hG (hx4.trans hx84)) hr_z_b5_70_3 hr_z_b5_70_5 hr_z_b5_70_6) ?_
 rintro t85_0_v M88 J88 hE88 hx88 hr_t85_0
 show DL _ _ _ _ _ _ _ _ _ _ _ _ ((some b5,.cells ((Der.ce z_b5_70 z_b5_70_3 z_b5_70_5 z_b5_70_6)) 27 (0,0)) :: J88)
 refine DL.mv 34 (.tuple #[t85_0_v,.int .i64 t85_1]) rfl rfl rfl ?_
 refine DL.pu 37 (t85_0_v) rfl (p_extract rfl rfl rfl) ?_
 refine DL.pu 38 (.int .i64 t85_1) rfl (p_extract rfl rfl rfl) ?_
 refine DL.pu 3 (t85_0_v) rfl (p_assign rfl rfl) ?_
 refine DL.pu 4 (.int .i64 t85_1) rfl (p_assign rfl rfl) ?_
 refine DL.nil ?_
 refine TT.settle (A:=[(some b5,.cells ((Der.ce z_b5_70 z_b5_70_3 z_b5_70_5 z_b5_70_6)) 27 (0,0))]) (J:=J88) hE88 ?_
 intro I89 hE89 hxI89
 refine TT.seq (x:=sub [1,1,1,1,0] B7) (y:=sub [1,1,1,1,1] B7) ?_
 refine TT.rg [0,1,2,3,4,5,6,7,8] [kq,kk,kk,kk,kp,kp,kp,kp,kp] rfl rfl ?_
 refine DL.qu 40 (.agg (Der.ce z_b5_70 z_b5_70_3 z_b5_70_5 z_b5_70_6)) rfl (f_loadA (j:=0) ty_a27 ty_s27 rfl rfl rfl rfl) ?_
 refine DL.newRowS (s:=ShDer) (zs:=[z_b5_70]) (cells:=[.int .i64 (Der.kind z_b5_70),.bool (Der.flag z_b5_70),.int .i64 (Der.num z_b5_70),z_b5_70_3,str (Der.text z_b5_70),z_b5_70_5,z_b5_70_6]) (n:=1) (A:=[(some b5,.cells ((Der.ce z_b5_70 z_b5_70_3 z_b5_70_5 z_b5_70_6)) 27 (0,0))]) (J:=[]) (fun J92 => ((some b5,.cells ((Der.ce z_b5_70 z_b5_70_3 z_b5_70_5 z_b5_70_6)) 27 (0,0)) :: J92)) (Nat.le_refl _) hE89.nil (List.append_nil _).symm (fun _ => rfl) rfl (by decide) rfl (fun i x hx => by match i,hx with | 0,hx => cases hx; exact (Der.cl (t:=z_b5_70) (IntRow.mono hr_z_b5_70_3 hx88) (IntRow.mono hr_z_b5_70_5 hx88) (RowS.mono hr_z_b5_70_6 hx88)) | k + 1,hx => simp at hx) (i:=1) rfl (Wn.none rfl) rfl rfl rfl (f_buildS (n:=1) (vs:=[(0,.agg (Der.ce z_b5_70 z_b5_70_3 z_b5_70_5 z_b5_70_6))]) elem25 rfl rfl (by kernel_rfl) rfl (args_val2 rfl)) ?_
 intro v92 M92 J92 hE92 hx92 hr_v92
 show DL _ _ _ _ _ _ _ _ _ _ _ _ ((some b5,.cells ((Der.ce z_b5_70 z_b5_70_3 z_b5_70_5 z_b5_70_6)) 27 (0,0)) :: J92)
 obtain ⟨t93,h94,h95⟩:=bind_some h87
 refine DL.callF (G:=Value × Value × Value) (u:=fun g => .agg (Der.ce t93 (g.1) (g.2.1) (g.2.2))) (Q:=fun g M_ => (IntRow M_ .u8 (g.1) (Der.bytes t93)) ∧ (IntRow M_ .u64 (g.2.1) (Der.arcs t93)) ∧ (RowS ShDer M_ (g.2.2) (Tree.kids t93))) (A:=[(some b5,.cells ((Der.ce z_b5_70 z_b5_70_3 z_b5_70_5 z_b5_70_6)) 27 (0,0))]) (J:=J92) (fun J96 => ((some b5,.cells ((Der.ce z_b5_70 z_b5_70_3 z_b5_70_5 z_b5_70_6)) 27 (0,0)) :: J96)) (Nat.le_refl _) hE92 rfl (fun _ => rfl) (by simp) (i:=2) rfl (Wn.none rfl) rfl rfl rfl rfl rfl rfl (args_val (vs:=[v92]) rfl) (fun w => enter22 _ w) (fun w hc hI => der_Seq.ok h94 (M:=M92) w hI hr_v92) ?_
 rintro ⟨t93_3,t93_5,t93_6⟩ M96 J96 hE96 hx96 ⟨hr_t93_3,hr_t93_5,hr_t93_6⟩
 show DL _ _ _ _ _ _ _ _ _ _ _ _ ((some b5,.cells ((Der.ce z_b5_70 z_b5_70_3 z_b5_70_5 z_b5_70_6)) 27 (0,0)) :: J96)
 obtain ⟨⟨t97_0,t97_1⟩,h98,h99⟩:=bind_some h95
 refine DL.callF (G:=Value) (u:=fun g => .tuple #[g,.int .i64 t97_1]) (Q:=fun g M_ => (IntRow M_ .u8 g t97_0)) (A:=[(some b5,.cells ((Der.ce z_b5_70 z_b5_70_3 z_b5_70_5 z_b5_70_6)) 27 (0,0))]) (J:=J96) (fun J100 => ((some b5,.cells ((Der.ce z_b5_70 z_b5_70_3 z_b5_70_5 z_b5_70_6)) 27 (0,0)) :: J100)) (Nat.le_refl _) hE96 rfl (fun _ => rfl) (by simp) (i:=3) rfl (Wn.none rfl) rfl rfl rfl rfl rfl rfl (args_val (vs:=[.agg (Der.ce t93 t93_3 t93_5 t93_6)]) rfl) (fun w => enter12 _ w) (fun w hc hI => der_Bytes.ok h98 (M:=M96) w hI (Glob.mono hG ((((hx4.trans hx84).trans hx88).trans hx92).trans hx96)) hr_t93_3 hr_t93_5 hr_t93_6) ?_
 rintro t97_0_v M100 J100 hE100 hx100 hr_t97_0
 show DL _ _ _ _ _ _ _ _ _ _ _ _ ((some b5,.cells ((Der.ce z_b5_70 z_b5_70_3 z_b5_70_5 z_b5_70_6)) 27 (0,0)) :: J100)
 refine DL.mv 39 (.tuple #[t97_0_v,.int .i64 t97_1]) rfl rfl rfl ?_
 refine DL.pu 44 (t97_0_v) rfl (p_extract rfl rfl rfl) ?_
 refine DL.pu 45 (.int .i64 t97_1) rfl (p_extract rfl rfl rfl) ?_
 refine DL.pu 5 (t97_0_v) rfl (p_assign rfl rfl) ?_
 refine DL.pu 6 (.int .i64 t97_1) rfl (p_assign rfl rfl) ?_
 refine DL.nil ?_
 refine TT.settle (A:=[(some b5,.cells ((Der.ce z_b5_70 z_b5_70_3 z_b5_70_5 z_b5_70_6)) 27 (0,0))]) (J:=J100) hE100 ?_
 intro I101 hE101 hxI101
 refine TT.seq (x:=sub [1,1,1,1,1,0] B7) (y:=sub [1,1,1,1,1,1] B7) ?_
 refine TT.rg [0,1,2,3,4,5,6,7] [kk,kk,kk,kp,kp,kp,kp,kp] rfl rfl ?_
 refine DL.newRowI (k:=.u8) (zs:=List.replicate 64996 0) (n:=64996) (A:=[(some b5,.cells ((Der.ce z_b5_70 z_b5_70_3 z_b5_70_5 z_b5_70_6)) 27 (0,0))]) (J:=[]) (fun J104 => ((some b5,.cells ((Der.ce z_b5_70 z_b5_70_3 z_b5_70_5 z_b5_70_6)) 27 (0,0)) :: J104)) (Nat.le_refl _) hE101.nil (List.append_nil _).symm (fun _ => rfl) List.length_replicate (by decide) (i:=0) rfl (Wn.none rfl) rfl rfl rfl (f_make (n:=64996) elem23 (by decide) (by decide) rfl rfl rfl) ?_
 intro v104 M104 J104 hE104 hx104 hr_v104
 show DL _ _ _ _ _ _ _ _ _ _ _ _ ((some b5,.cells ((Der.ce z_b5_70 z_b5_70_3 z_b5_70_5 z_b5_70_6)) 27 (0,0)) :: J104)
 obtain ⟨t105,h106,h107⟩:=bind_some h99
 refine DL.callF (G:=Value × Value × Value) (u:=fun g => .agg (Der.ce t105 (g.1) (g.2.1) (g.2.2))) (Q:=fun g M_ => (IntRow M_ .u8 (g.1) (Der.bytes t105)) ∧ (IntRow M_ .u64 (g.2.1) (Der.arcs t105)) ∧ (RowS ShDer M_ (g.2.2) (Tree.kids t105))) (A:=[(some b5,.cells ((Der.ce z_b5_70 z_b5_70_3 z_b5_70_5 z_b5_70_6)) 27 (0,0))]) (J:=J104) (fun J108 => ((some b5,.cells ((Der.ce z_b5_70 z_b5_70_3 z_b5_70_5 z_b5_70_6)) 27 (0,0)) :: J108)) (Nat.le_refl _) hE104 rfl (fun _ => rfl) (by simp) (i:=1) rfl (Wn.none rfl) rfl rfl rfl rfl rfl rfl (args_val (vs:=[v104]) rfl) (fun w => enter23 _ w) (fun w hc hI => der_Octets.ok h106 (M:=M104) w hI hr_v104) ?_
 rintro ⟨t105_3,t105_5,t105_6⟩ M108 J108 hE108 hx108 ⟨hr_t105_3,hr_t105_5,hr_t105_6⟩
 show DL _ _ _ _ _ _ _ _ _ _ _ _ ((some b5,.cells ((Der.ce z_b5_70 z_b5_70_3 z_b5_70_5 z_b5_70_6)) 27 (0,0)) :: J108)
 obtain ⟨⟨t109_0,t109_1⟩,h110,h111⟩:=bind_some h107
 refine DL.callF (G:=Value) (u:=fun g => .tuple #[g,.int .i64 t109_1]) (Q:=fun g M_ => (IntRow M_ .u8 g t109_0)) (A:=[(some b5,.cells ((Der.ce z_b5_70 z_b5_70_3 z_b5_70_5 z_b5_70_6)) 27 (0,0))]) (J:=J108) (fun J112 => ((some b5,.cells ((Der.ce z_b5_70 z_b5_70_3 z_b5_70_5 z_b5_70_6)) 27 (0,0)) :: J112)) (Nat.le_refl _) hE108 rfl (fun _ => rfl) (by simp) (i:=2) rfl (Wn.none rfl) rfl rfl rfl rfl rfl rfl (args_val (vs:=[.agg (Der.ce t105 t105_3 t105_5 t105_6)]) rfl) (fun w => enter12 _ w) (fun w hc hI => der_Bytes.ok h110 (M:=M108) w hI (Glob.mono hG (((((((hx4.trans hx84).trans hx88).trans hx92).trans hx96).trans hx100).trans hx104).trans hx108)) hr_t105_3 hr_t105_5 hr_t105_6) ?_
 rintro t109_0_v M112 J112 hE112 hx112 hr_t109_0
 show DL _ _ _ _ _ _ _ _ _ _ _ _ ((some b5,.cells ((Der.ce z_b5_70 z_b5_70_3 z_b5_70_5 z_b5_70_6)) 27 (0,0)) :: J112)
 refine DL.mv 46 (.tuple #[t109_0_v,.int .i64 t109_1]) rfl rfl rfl ?_
 refine DL.pu 50 (t109_0_v) rfl (p_extract rfl rfl rfl) ?_
 refine DL.pu 51 (.int .i64 t109_1) rfl (p_extract rfl rfl rfl) ?_
 refine DL.pu 7 (t109_0_v) rfl (p_assign rfl rfl) ?_
 refine DL.pu 8 (.int .i64 t109_1) rfl (p_assign rfl rfl) ?_
 refine DL.nil ?_
 refine TT.settle (A:=[(some b5,.cells ((Der.ce z_b5_70 z_b5_70_3 z_b5_70_5 z_b5_70_6)) 27 (0,0))]) (J:=J112) hE112 ?_
 intro I113 hE113 hxI113
 refine TT.seq (x:=sub [1,1,1,1,1,1,0] B7) (y:=sub [1,1,1,1,1,1,1] B7) ?_
 refine TT.rg [0,1,2,3,4,5,6,7] [kk,kk,kk,kp,kp,kp,kp,kp] rfl rfl ?_
 refine DL.newRowI (k:=.u8) (zs:=List.replicate 64997 0) (n:=64997) (A:=[(some b5,.cells ((Der.ce z_b5_70 z_b5_70_3 z_b5_70_5 z_b5_70_6)) 27 (0,0))]) (J:=[]) (fun J116 => ((some b5,.cells ((Der.ce z_b5_70 z_b5_70_3 z_b5_70_5 z_b5_70_6)) 27 (0,0)) :: J116)) (Nat.le_refl _) hE113.nil (List.append_nil _).symm (fun _ => rfl) List.length_replicate (by decide) (i:=0) rfl (Wn.none rfl) rfl rfl rfl (f_make (n:=64997) elem23 (by decide) (by decide) rfl rfl rfl) ?_
 intro v116 M116 J116 hE116 hx116 hr_v116
 show DL _ _ _ _ _ _ _ _ _ _ _ _ ((some b5,.cells ((Der.ce z_b5_70 z_b5_70_3 z_b5_70_5 z_b5_70_6)) 27 (0,0)) :: J116)
 obtain ⟨t117,h118,h119⟩:=bind_some h111
 refine DL.callF (G:=Value × Value × Value) (u:=fun g => .agg (Der.ce t117 (g.1) (g.2.1) (g.2.2))) (Q:=fun g M_ => (IntRow M_ .u8 (g.1) (Der.bytes t117)) ∧ (IntRow M_ .u64 (g.2.1) (Der.arcs t117)) ∧ (RowS ShDer M_ (g.2.2) (Tree.kids t117))) (A:=[(some b5,.cells ((Der.ce z_b5_70 z_b5_70_3 z_b5_70_5 z_b5_70_6)) 27 (0,0))]) (J:=J116) (fun J120 => ((some b5,.cells ((Der.ce z_b5_70 z_b5_70_3 z_b5_70_5 z_b5_70_6)) 27 (0,0)) :: J120)) (Nat.le_refl _) hE116 rfl (fun _ => rfl) (by simp) (i:=1) rfl (Wn.none rfl) rfl rfl rfl rfl rfl rfl (args_val (vs:=[v116]) rfl) (fun w => enter23 _ w) (fun w hc hI => der_Octets.ok h118 (M:=M116) w hI hr_v116) ?_
 rintro ⟨t117_3,t117_5,t117_6⟩ M120 J120 hE120 hx120 ⟨hr_t117_3,hr_t117_5,hr_t117_6⟩
 show DL _ _ _ _ _ _ _ _ _ _ _ _ ((some b5,.cells ((Der.ce z_b5_70 z_b5_70_3 z_b5_70_5 z_b5_70_6)) 27 (0,0)) :: J120)
 obtain ⟨⟨t121_0,t121_1⟩,h122,h123⟩:=bind_some h119
 refine DL.callF (G:=Value) (u:=fun g => .tuple #[g,.int .i64 t121_1]) (Q:=fun g M_ => (IntRow M_ .u8 g t121_0)) (A:=[(some b5,.cells ((Der.ce z_b5_70 z_b5_70_3 z_b5_70_5 z_b5_70_6)) 27 (0,0))]) (J:=J120) (fun J124 => ((some b5,.cells ((Der.ce z_b5_70 z_b5_70_3 z_b5_70_5 z_b5_70_6)) 27 (0,0)) :: J124)) (Nat.le_refl _) hE120 rfl (fun _ => rfl) (by simp) (i:=2) rfl (Wn.none rfl) rfl rfl rfl rfl rfl rfl (args_val (vs:=[.agg (Der.ce t117 t117_3 t117_5 t117_6)]) rfl) (fun w => enter12 _ w) (fun w hc hI => der_Bytes.ok h122 (M:=M120) w hI (Glob.mono hG ((((((((((hx4.trans hx84).trans hx88).trans hx92).trans hx96).trans hx100).trans hx104).trans hx108).trans hx112).trans hx116).trans hx120)) hr_t117_3 hr_t117_5 hr_t117_6) ?_
 rintro t121_0_v M124 J124 hE124 hx124 hr_t121_0
 show DL _ _ _ _ _ _ _ _ _ _ _ _ ((some b5,.cells ((Der.ce z_b5_70 z_b5_70_3 z_b5_70_5 z_b5_70_6)) 27 (0,0)) :: J124)
 refine DL.mv 52 (.tuple #[t121_0_v,.int .i64 t121_1]) rfl rfl rfl ?_
 refine DL.pu 56 (t121_0_v) rfl (p_extract rfl rfl rfl) ?_
 refine DL.pu 57 (.int .i64 t121_1) rfl (p_extract rfl rfl rfl) ?_
 refine DL.pu 9 (t121_0_v) rfl (p_assign rfl rfl) ?_
 refine DL.pu 10 (.int .i64 t121_1) rfl (p_assign rfl rfl) ?_
 refine DL.nil ?_
 refine TT.settle (A:=[(some b5,.cells ((Der.ce z_b5_70 z_b5_70_3 z_b5_70_5 z_b5_70_6)) 27 (0,0))]) (J:=J124) hE124 ?_
 intro I125 hE125 hxI125
 refine TT.seq (x:=sub [1,1,1,1,1,1,1,0] B7) (y:=sub [1,1,1,1,1,1,1,1] B7) ?_
 refine TT.rg [0,1,2,3,4,5,6,7] [kp,kk,kp,kp,kp,(.alloc,none),(.store,none),kp] rfl rfl ?_
 refine DL.mv 59 (t109_0_v) rfl rfl rfl ?_
 obtain ⟨⟨t126_0,t126_1⟩,h127,h128⟩:=bind_some h123
 refine DL.callF (G:=Value × Value × Value) (u:=fun g => .tuple #[.agg (Der.ce t126_0 (g.1) (g.2.1) (g.2.2)),.int .i64 t126_1]) (Q:=fun g M_ => (IntRow M_ .u8 (g.1) (Der.bytes t126_0)) ∧ (IntRow M_ .u64 (g.2.1) (Der.arcs t126_0)) ∧ (RowS ShDer M_ (g.2.2) (Tree.kids t126_0))) (A:=[(some b5,.cells ((Der.ce z_b5_70 z_b5_70_3 z_b5_70_5 z_b5_70_6)) 27 (0,0))]) (J:=[]) (fun J129 => ((some b5,.cells ((Der.ce z_b5_70 z_b5_70_3 z_b5_70_5 z_b5_70_6)) 27 (0,0)) :: J129)) (Nat.le_refl _) hE125.nil (List.append_nil _).symm (fun _ => rfl) (by simp) (i:=1) rfl (Wn.none rfl) rfl rfl rfl rfl rfl rfl (args_val (vs:=[t109_0_v]) rfl) (fun w => enter19 _ w) (fun w hc hI => der_Of.ok h127 (M:=M124) w hI (Glob.mono hG (((((((((((hx4.trans hx84).trans hx88).trans hx92).trans hx96).trans hx100).trans hx104).trans hx108).trans hx112).trans hx116).trans hx120).trans hx124)) (IntRow.mono hr_t109_0 ((hx116.trans hx120).trans hx124))) ?_
 rintro ⟨t126_0_3,t126_0_5,t126_0_6⟩ M129 J129 hE129 hx129 ⟨hr_t126_0_3,hr_t126_0_5,hr_t126_0_6⟩
 show DL _ _ _ _ _ _ _ _ _ _ _ _ ((some b5,.cells ((Der.ce z_b5_70 z_b5_70_3 z_b5_70_5 z_b5_70_6)) 27 (0,0)) :: J129)
 refine DL.mv 58 (.tuple #[.agg (Der.ce t126_0 t126_0_3 t126_0_5 t126_0_6),.int .i64 t126_1]) rfl rfl rfl ?_
 refine DL.pu 61 (.agg (Der.ce t126_0 t126_0_3 t126_0_5 t126_0_6)) rfl (p_extract rfl rfl rfl) ?_
 refine DL.pu 62 (.int .i64 t126_1) rfl (p_extract rfl rfl rfl) ?_
 refine DL.new (ob:=.cells (#[.int .i64 0,.bool false,.int .i64 0,(.slice none 0 0),str ([] : List UInt8),(.slice none 0 0),(.slice none 0 0)]) 27) (mk:=fun b => ptr b 0) (i:=5) rfl (Wn.none rfl) rfl rfl rfl (f_alloc ty_z27 rfl) ?_
 intro b130 hb130
 refine DL.put (H':=((some b130,.cells ((Der.ce t126_0 t126_0_3 t126_0_5 t126_0_6)) 27 (0,0)) :: (some b5,.cells ((Der.ce z_b5_70 z_b5_70_3 z_b5_70_5 z_b5_70_6)) 27 (0,0)) :: J129)) (i:=6) rfl (Wn.none rfl) rfl rfl (f_storeA (j:=0) ty_s27 rfl rfl rfl (one_cons trivial (one_cons trivial (one_cons trivial (one_cons (sl_one (RowV.sl hr_t126_0_3)) (one_cons trivial (one_cons (sl_one (RowV.sl hr_t126_0_5)) (one_cons (sl_one (RowS.sl hr_t126_0_6)) one_nil))))))) rfl rfl rfl) (keep_none rfl) ?_
 refine DL.pu 12 (.int .i64 t126_1) rfl (p_assign rfl rfl) ?_
 refine DL.nil ?_
 refine TT.settle (A:=[(some b130,.cells ((Der.ce t126_0 t126_0_3 t126_0_5 t126_0_6)) 27 (0,0)),(some b5,.cells ((Der.ce z_b5_70 z_b5_70_3 z_b5_70_5 z_b5_70_6)) 27 (0,0))]) (J:=J129) hE129 ?_
 intro I131 hE131 hxI131
 refine TT.seq (x:=sub [1,1,1,1,1,1,1,1,0] B7) (y:=sub [1,1,1,1,1,1,1,1,1] B7) ?_
 refine TT.rg [0,1,2,3,4,5,6,7] [kk,kk,kk,kp,kp,kp,kp,kp] rfl rfl ?_
 refine DL.newRowI (k:=.u64) (zs:=[1,39,2147483647]) (n:=3) (A:=[(some b130,.cells ((Der.ce t126_0 t126_0_3 t126_0_5 t126_0_6)) 27 (0,0)),(some b5,.cells ((Der.ce z_b5_70 z_b5_70_3 z_b5_70_5 z_b5_70_6)) 27 (0,0))]) (J:=[]) (fun J134 => ((some b130,.cells ((Der.ce t126_0 t126_0_3 t126_0_5 t126_0_6)) 27 (0,0)) :: (some b5,.cells ((Der.ce z_b5_70 z_b5_70_3 z_b5_70_5 z_b5_70_6)) 27 (0,0)) :: J134)) (Nat.le_refl _) hE131.nil (List.append_nil _).symm (fun _ => rfl) rfl (by decide) (i:=0) rfl (Wn.none rfl) rfl rfl rfl (f_buildSl (n:=3) (zs:=[1,39,2147483647]) (vs:=[(0,.int .u64 1),(1,.int .u64 39),(2,.int .u64 2147483647)]) elem24 rfl rfl (by kernel_rfl) rfl (args_val2 rfl)) ?_
 intro v134 M134 J134 hE134 hx134 hr_v134
 show DL _ _ _ _ _ _ _ _ _ _ _ _ ((some b130,.cells ((Der.ce t126_0 t126_0_3 t126_0_5 t126_0_6)) 27 (0,0)) :: (some b5,.cells ((Der.ce z_b5_70 z_b5_70_3 z_b5_70_5 z_b5_70_6)) 27 (0,0)) :: J134)
 obtain ⟨t135,h136,h137⟩:=bind_some h128
 refine DL.callF (G:=Value × Value × Value) (u:=fun g => .agg (Der.ce t135 (g.1) (g.2.1) (g.2.2))) (Q:=fun g M_ => (IntRow M_ .u8 (g.1) (Der.bytes t135)) ∧ (IntRow M_ .u64 (g.2.1) (Der.arcs t135)) ∧ (RowS ShDer M_ (g.2.2) (Tree.kids t135))) (A:=[(some b130,.cells ((Der.ce t126_0 t126_0_3 t126_0_5 t126_0_6)) 27 (0,0)),(some b5,.cells ((Der.ce z_b5_70 z_b5_70_3 z_b5_70_5 z_b5_70_6)) 27 (0,0))]) (J:=J134) (fun J138 => ((some b130,.cells ((Der.ce t126_0 t126_0_3 t126_0_5 t126_0_6)) 27 (0,0)) :: (some b5,.cells ((Der.ce z_b5_70 z_b5_70_3 z_b5_70_5 z_b5_70_6)) 27 (0,0)) :: J138)) (Nat.le_refl _) hE134 rfl (fun _ => rfl) (by simp) (i:=1) rfl (Wn.none rfl) rfl rfl rfl rfl rfl rfl (args_val (vs:=[v134]) rfl) (fun w => enter24 _ w) (fun w hc hI => der_Oid.ok h136 (M:=M134) w hI hr_v134) ?_
 rintro ⟨t135_3,t135_5,t135_6⟩ M138 J138 hE138 hx138 ⟨hr_t135_3,hr_t135_5,hr_t135_6⟩
 show DL _ _ _ _ _ _ _ _ _ _ _ _ ((some b130,.cells ((Der.ce t126_0 t126_0_3 t126_0_5 t126_0_6)) 27 (0,0)) :: (some b5,.cells ((Der.ce z_b5_70 z_b5_70_3 z_b5_70_5 z_b5_70_6)) 27 (0,0)) :: J138)
 obtain ⟨⟨t139_0,t139_1⟩,h140,h141⟩:=bind_some h137
 refine DL.callF (G:=Value) (u:=fun g => .tuple #[g,.int .i64 t139_1]) (Q:=fun g M_ => (IntRow M_ .u8 g t139_0)) (A:=[(some b130,.cells ((Der.ce t126_0 t126_0_3 t126_0_5 t126_0_6)) 27 (0,0)),(some b5,.cells ((Der.ce z_b5_70 z_b5_70_3 z_b5_70_5 z_b5_70_6)) 27 (0,0))]) (J:=J138) (fun J142 => ((some b130,.cells ((Der.ce t126_0 t126_0_3 t126_0_5 t126_0_6)) 27 (0,0)) :: (some b5,.cells ((Der.ce z_b5_70 z_b5_70_3 z_b5_70_5 z_b5_70_6)) 27 (0,0)) :: J142)) (Nat.le_refl _) hE138 rfl (fun _ => rfl) (by simp) (i:=2) rfl (Wn.none rfl) rfl rfl rfl rfl rfl rfl (args_val (vs:=[.agg (Der.ce t135 t135_3 t135_5 t135_6)]) rfl) (fun w => enter12 _ w) (fun w hc hI => der_Bytes.ok h140 (M:=M138) w hI (Glob.mono hG ((((((((((((((hx4.trans hx84).trans hx88).trans hx92).trans hx96).trans hx100).trans hx104).trans hx108).trans hx112).trans hx116).trans hx120).trans hx124).trans hx129).trans hx134).trans hx138)) hr_t135_3 hr_t135_5 hr_t135_6) ?_
 rintro t139_0_v M142 J142 hE142 hx142 hr_t139_0
 show DL _ _ _ _ _ _ _ _ _ _ _ _ ((some b130,.cells ((Der.ce t126_0 t126_0_3 t126_0_5 t126_0_6)) 27 (0,0)) :: (some b5,.cells ((Der.ce z_b5_70 z_b5_70_3 z_b5_70_5 z_b5_70_6)) 27 (0,0)) :: J142)
 refine DL.mv 63 (.tuple #[t139_0_v,.int .i64 t139_1]) rfl rfl rfl ?_
 refine DL.pu 67 (t139_0_v) rfl (p_extract rfl rfl rfl) ?_
 refine DL.pu 68 (.int .i64 t139_1) rfl (p_extract rfl rfl rfl) ?_
 refine DL.pu 13 (t139_0_v) rfl (p_assign rfl rfl) ?_
 refine DL.pu 14 (.int .i64 t139_1) rfl (p_assign rfl rfl) ?_
 refine DL.nil ?_
 refine TT.settle (A:=[(some b130,.cells ((Der.ce t126_0 t126_0_3 t126_0_5 t126_0_6)) 27 (0,0)),(some b5,.cells ((Der.ce z_b5_70 z_b5_70_3 z_b5_70_5 z_b5_70_6)) 27 (0,0))]) (J:=J142) hE142 ?_
 intro I143 hE143 hxI143
 refine TT.seq (x:=sub [1,1,1,1,1,1,1,1,1,0] B7) (y:=sub [1,1,1,1,1,1,1,1,1,1] B7) ?_
 refine TT.rg [0,1,2,3,4,5,6,7] [kk,kk,kk,kp,kp,kp,kp,kp] rfl rfl ?_
 refine DL.newRowI (k:=.u64) (zs:=[1,40]) (n:=2) (A:=[(some b130,.cells ((Der.ce t126_0 t126_0_3 t126_0_5 t126_0_6)) 27 (0,0)),(some b5,.cells ((Der.ce z_b5_70 z_b5_70_3 z_b5_70_5 z_b5_70_6)) 27 (0,0))]) (J:=[]) (fun J146 => ((some b130,.cells ((Der.ce t126_0 t126_0_3 t126_0_5 t126_0_6)) 27 (0,0)) :: (some b5,.cells ((Der.ce z_b5_70 z_b5_70_3 z_b5_70_5 z_b5_70_6)) 27 (0,0)) :: J146)) (Nat.le_refl _) hE143.nil (List.append_nil _).symm (fun _ => rfl) rfl (by decide) (i:=0) rfl (Wn.none rfl) rfl rfl rfl (f_buildSl (n:=2) (zs:=[1,40]) (vs:=[(0,.int .u64 1),(1,.int .u64 40)]) elem24 rfl rfl (by kernel_rfl) rfl (args_val2 rfl)) ?_
 intro v146 M146 J146 hE146 hx146 hr_v146
 show DL _ _ _ _ _ _ _ _ _ _ _ _ ((some b130,.cells ((Der.ce t126_0 t126_0_3 t126_0_5 t126_0_6)) 27 (0,0)) :: (some b5,.cells ((Der.ce z_b5_70 z_b5_70_3 z_b5_70_5 z_b5_70_6)) 27 (0,0)) :: J146)
 obtain ⟨t147,h148,h149⟩:=bind_some h141
 refine DL.callF (G:=Value × Value × Value) (u:=fun g => .agg (Der.ce t147 (g.1) (g.2.1) (g.2.2))) (Q:=fun g M_ => (IntRow M_ .u8 (g.1) (Der.bytes t147)) ∧ (IntRow M_ .u64 (g.2.1) (Der.arcs t147)) ∧ (RowS ShDer M_ (g.2.2) (Tree.kids t147))) (A:=[(some b130,.cells ((Der.ce t126_0 t126_0_3 t126_0_5 t126_0_6)) 27 (0,0)),(some b5,.cells ((Der.ce z_b5_70 z_b5_70_3 z_b5_70_5 z_b5_70_6)) 27 (0,0))]) (J:=J146) (fun J150 => ((some b130,.cells ((Der.ce t126_0 t126_0_3 t126_0_5 t126_0_6)) 27 (0,0)) :: (some b5,.cells ((Der.ce z_b5_70 z_b5_70_3 z_b5_70_5 z_b5_70_6)) 27 (0,0)) :: J150)) (Nat.le_refl _) hE146 rfl (fun _ => rfl) (by simp) (i:=1) rfl (Wn.none rfl) rfl rfl rfl rfl rfl rfl (args_val (vs:=[v146]) rfl) (fun w => enter24 _ w) (fun w hc hI => der_Oid.ok h148 (M:=M146) w hI hr_v146) ?_
 rintro ⟨t147_3,t147_5,t147_6⟩ M150 J150 hE150 hx150 ⟨hr_t147_3,hr_t147_5,hr_t147_6⟩
 show DL _ _ _ _ _ _ _ _ _ _ _ _ ((some b130,.cells ((Der.ce t126_0 t126_0_3 t126_0_5 t126_0_6)) 27 (0,0)) :: (some b5,.cells ((Der.ce z_b5_70 z_b5_70_3 z_b5_70_5 z_b5_70_6)) 27 (0,0)) :: J150)
 obtain ⟨⟨t151_0,t151_1⟩,h152,h153⟩:=bind_some h149
 refine DL.callF (G:=Value) (u:=fun g => .tuple #[g,.int .i64 t151_1]) (Q:=fun g M_ => (IntRow M_ .u8 g t151_0)) (A:=[(some b130,.cells ((Der.ce t126_0 t126_0_3 t126_0_5 t126_0_6)) 27 (0,0)),(some b5,.cells ((Der.ce z_b5_70 z_b5_70_3 z_b5_70_5 z_b5_70_6)) 27 (0,0))]) (J:=J150) (fun J154 => ((some b130,.cells ((Der.ce t126_0 t126_0_3 t126_0_5 t126_0_6)) 27 (0,0)) :: (some b5,.cells ((Der.ce z_b5_70 z_b5_70_3 z_b5_70_5 z_b5_70_6)) 27 (0,0)) :: J154)) (Nat.le_refl _) hE150 rfl (fun _ => rfl) (by simp) (i:=2) rfl (Wn.none rfl) rfl rfl rfl rfl rfl rfl (args_val (vs:=[.agg (Der.ce t147 t147_3 t147_5 t147_6)]) rfl) (fun w => enter12 _ w) (fun w hc hI => der_Bytes.ok h152 (M:=M150) w hI (Glob.mono hG (((((((((((((((((hx4.trans hx84).trans hx88).trans hx92).trans hx96).trans hx100).trans hx104).trans hx108).trans hx112).trans hx116).trans hx120).trans hx124).trans hx129).trans hx134).trans hx138).trans hx142).trans hx146).trans hx150)) hr_t147_3 hr_t147_5 hr_t147_6) ?_
 rintro t151_0_v M154 J154 hE154 hx154 hr_t151_0
 show DL _ _ _ _ _ _ _ _ _ _ _ _ ((some b130,.cells ((Der.ce t126_0 t126_0_3 t126_0_5 t126_0_6)) 27 (0,0)) :: (some b5,.cells ((Der.ce z_b5_70 z_b5_70_3 z_b5_70_5 z_b5_70_6)) 27 (0,0)) :: J154)
 refine DL.mv 69 (.tuple #[t151_0_v,.int .i64 t151_1]) rfl rfl rfl ?_
 refine DL.pu 73 (t151_0_v) rfl (p_extract rfl rfl rfl) ?_
 refine DL.pu 74 (.int .i64 t151_1) rfl (p_extract rfl rfl rfl) ?_
 refine DL.pu 15 (t151_0_v) rfl (p_assign rfl rfl) ?_
 refine DL.pu 16 (.int .i64 t151_1) rfl (p_assign rfl rfl) ?_
 refine DL.nil ?_
 refine TT.settle (A:=[(some b130,.cells ((Der.ce t126_0 t126_0_3 t126_0_5 t126_0_6)) 27 (0,0)),(some b5,.cells ((Der.ce z_b5_70 z_b5_70_3 z_b5_70_5 z_b5_70_6)) 27 (0,0))]) (J:=J154) hE154 ?_
 intro I155 hE155 hxI155
 refine TT.seq (x:=sub [1,1,1,1,1,1,1,1,1,1,0] B7) (y:=sub [1,1,1,1,1,1,1,1,1,1,1] B7) ?_
 refine TT.rg [0,1,2,3,4,5,6,7] [kk,kk,kk,kp,kp,kp,kp,kp] rfl rfl ?_
 refine DL.newRowI (k:=.u64) (zs:=[2,2147483647]) (n:=2) (A:=[(some b130,.cells ((Der.ce t126_0 t126_0_3 t126_0_5 t126_0_6)) 27 (0,0)),(some b5,.cells ((Der.ce z_b5_70 z_b5_70_3 z_b5_70_5 z_b5_70_6)) 27 (0,0))]) (J:=[]) (fun J158 => ((some b130,.cells ((Der.ce t126_0 t126_0_3 t126_0_5 t126_0_6)) 27 (0,0)) :: (some b5,.cells ((Der.ce z_b5_70 z_b5_70_3 z_b5_70_5 z_b5_70_6)) 27 (0,0)) :: J158)) (Nat.le_refl _) hE155.nil (List.append_nil _).symm (fun _ => rfl) rfl (by decide) (i:=0) rfl (Wn.none rfl) rfl rfl rfl (f_buildSl (n:=2) (zs:=[2,2147483647]) (vs:=[(0,.int .u64 2),(1,.int .u64 2147483647)]) elem24 rfl rfl (by kernel_rfl) rfl (args_val2 rfl)) ?_
 intro v158 M158 J158 hE158 hx158 hr_v158
 show DL _ _ _ _ _ _ _ _ _ _ _ _ ((some b130,.cells ((Der.ce t126_0 t126_0_3 t126_0_5 t126_0_6)) 27 (0,0)) :: (some b5,.cells ((Der.ce z_b5_70 z_b5_70_3 z_b5_70_5 z_b5_70_6)) 27 (0,0)) :: J158)
 obtain ⟨t159,h160,h161⟩:=bind_some h153
 refine DL.callF (G:=Value × Value × Value) (u:=fun g => .agg (Der.ce t159 (g.1) (g.2.1) (g.2.2))) (Q:=fun g M_ => (IntRow M_ .u8 (g.1) (Der.bytes t159)) ∧ (IntRow M_ .u64 (g.2.1) (Der.arcs t159)) ∧ (RowS ShDer M_ (g.2.2) (Tree.kids t159))) (A:=[(some b130,.cells ((Der.ce t126_0 t126_0_3 t126_0_5 t126_0_6)) 27 (0,0)),(some b5,.cells ((Der.ce z_b5_70 z_b5_70_3 z_b5_70_5 z_b5_70_6)) 27 (0,0))]) (J:=J158) (fun J162 => ((some b130,.cells ((Der.ce t126_0 t126_0_3 t126_0_5 t126_0_6)) 27 (0,0)) :: (some b5,.cells ((Der.ce z_b5_70 z_b5_70_3 z_b5_70_5 z_b5_70_6)) 27 (0,0)) :: J162)) (Nat.le_refl _) hE158 rfl (fun _ => rfl) (by simp) (i:=1) rfl (Wn.none rfl) rfl rfl rfl rfl rfl rfl (args_val (vs:=[v158]) rfl) (fun w => enter24 _ w) (fun w hc hI => der_Oid.ok h160 (M:=M158) w hI hr_v158) ?_
 rintro ⟨t159_3,t159_5,t159_6⟩ M162 J162 hE162 hx162 ⟨hr_t159_3,hr_t159_5,hr_t159_6⟩
 show DL _ _ _ _ _ _ _ _ _ _ _ _ ((some b130,.cells ((Der.ce t126_0 t126_0_3 t126_0_5 t126_0_6)) 27 (0,0)) :: (some b5,.cells ((Der.ce z_b5_70 z_b5_70_3 z_b5_70_5 z_b5_70_6)) 27 (0,0)) :: J162)
 obtain ⟨⟨t163_0,t163_1⟩,h164,h165⟩:=bind_some h161
 refine DL.callF (G:=Value) (u:=fun g => .tuple #[g,.int .i64 t163_1]) (Q:=fun g M_ => (IntRow M_ .u8 g t163_0)) (A:=[(some b130,.cells ((Der.ce t126_0 t126_0_3 t126_0_5 t126_0_6)) 27 (0,0)),(some b5,.cells ((Der.ce z_b5_70 z_b5_70_3 z_b5_70_5 z_b5_70_6)) 27 (0,0))]) (J:=J162) (fun J166 => ((some b130,.cells ((Der.ce t126_0 t126_0_3 t126_0_5 t126_0_6)) 27 (0,0)) :: (some b5,.cells ((Der.ce z_b5_70 z_b5_70_3 z_b5_70_5 z_b5_70_6)) 27 (0,0)) :: J166)) (Nat.le_refl _) hE162 rfl (fun _ => rfl) (by simp) (i:=2) rfl (Wn.none rfl) rfl rfl rfl rfl rfl rfl (args_val (vs:=[.agg (Der.ce t159 t159_3 t159_5 t159_6)]) rfl) (fun w => enter12 _ w) (fun w hc hI => der_Bytes.ok h164 (M:=M162) w hI (Glob.mono hG ((((((((((((((((((((hx4.trans hx84).trans hx88).trans hx92).trans hx96).trans hx100).trans hx104).trans hx108).trans hx112).trans hx116).trans hx120).trans hx124).trans hx129).trans hx134).trans hx138).trans hx142).trans hx146).trans hx150).trans hx154).trans hx158).trans hx162)) hr_t159_3 hr_t159_5 hr_t159_6) ?_
 rintro t163_0_v M166 J166 hE166 hx166 hr_t163_0
 show DL _ _ _ _ _ _ _ _ _ _ _ _ ((some b130,.cells ((Der.ce t126_0 t126_0_3 t126_0_5 t126_0_6)) 27 (0,0)) :: (some b5,.cells ((Der.ce z_b5_70 z_b5_70_3 z_b5_70_5 z_b5_70_6)) 27 (0,0)) :: J166)
 refine DL.mv 75 (.tuple #[t163_0_v,.int .i64 t163_1]) rfl rfl rfl ?_
 refine DL.pu 79 (t163_0_v) rfl (p_extract rfl rfl rfl) ?_
 refine DL.pu 80 (.int .i64 t163_1) rfl (p_extract rfl rfl rfl) ?_
 refine DL.pu 17 (t163_0_v) rfl (p_assign rfl rfl) ?_
 refine DL.pu 18 (.int .i64 t163_1) rfl (p_assign rfl rfl) ?_
 refine DL.nil ?_
 refine TT.settle (A:=[(some b130,.cells ((Der.ce t126_0 t126_0_3 t126_0_5 t126_0_6)) 27 (0,0)),(some b5,.cells ((Der.ce z_b5_70 z_b5_70_3 z_b5_70_5 z_b5_70_6)) 27 (0,0))]) (J:=J166) hE166 ?_
 intro I167 hE167 hxI167
 refine TT.seq (x:=sub [1,1,1,1,1,1,1,1,1,1,1,0] B7) (y:=sub [1,1,1,1,1,1,1,1,1,1,1,1] B7) ?_
 refine TT.rg [0,1,2,3,4,5,6,7] [kk,kk,kk,kp,kp,kp,kp,kp] rfl rfl ?_
 refine DL.newRowI (k:=.u64) (zs:=[3,1]) (n:=2) (A:=[(some b130,.cells ((Der.ce t126_0 t126_0_3 t126_0_5 t126_0_6)) 27 (0,0)),(some b5,.cells ((Der.ce z_b5_70 z_b5_70_3 z_b5_70_5 z_b5_70_6)) 27 (0,0))]) (J:=[]) (fun J170 => ((some b130,.cells ((Der.ce t126_0 t126_0_3 t126_0_5 t126_0_6)) 27 (0,0)) :: (some b5,.cells ((Der.ce z_b5_70 z_b5_70_3 z_b5_70_5 z_b5_70_6)) 27 (0,0)) :: J170)) (Nat.le_refl _) hE167.nil (List.append_nil _).symm (fun _ => rfl) rfl (by decide) (i:=0) rfl (Wn.none rfl) rfl rfl rfl (f_buildSl (n:=2) (zs:=[3,1]) (vs:=[(0,.int .u64 3),(1,.int .u64 1)]) elem24 rfl rfl (by kernel_rfl) rfl (args_val2 rfl)) ?_
 intro v170 M170 J170 hE170 hx170 hr_v170
 show DL _ _ _ _ _ _ _ _ _ _ _ _ ((some b130,.cells ((Der.ce t126_0 t126_0_3 t126_0_5 t126_0_6)) 27 (0,0)) :: (some b5,.cells ((Der.ce z_b5_70 z_b5_70_3 z_b5_70_5 z_b5_70_6)) 27 (0,0)) :: J170)
 obtain ⟨t171,h172,h173⟩:=bind_some h165
 refine DL.callF (G:=Value × Value × Value) (u:=fun g => .agg (Der.ce t171 (g.1) (g.2.1) (g.2.2))) (Q:=fun g M_ => (IntRow M_ .u8 (g.1) (Der.bytes t171)) ∧ (IntRow M_ .u64 (g.2.1) (Der.arcs t171)) ∧ (RowS ShDer M_ (g.2.2) (Tree.kids t171))) (A:=[(some b130,.cells ((Der.ce t126_0 t126_0_3 t126_0_5 t126_0_6)) 27 (0,0)),(some b5,.cells ((Der.ce z_b5_70 z_b5_70_3 z_b5_70_5 z_b5_70_6)) 27 (0,0))]) (J:=J170) (fun J174 => ((some b130,.cells ((Der.ce t126_0 t126_0_3 t126_0_5 t126_0_6)) 27 (0,0)) :: (some b5,.cells ((Der.ce z_b5_70 z_b5_70_3 z_b5_70_5 z_b5_70_6)) 27 (0,0)) :: J174)) (Nat.le_refl _) hE170 rfl (fun _ => rfl) (by simp) (i:=1) rfl (Wn.none rfl) rfl rfl rfl rfl rfl rfl (args_val (vs:=[v170]) rfl) (fun w => enter24 _ w) (fun w hc hI => der_Oid.ok h172 (M:=M170) w hI hr_v170) ?_
 rintro ⟨t171_3,t171_5,t171_6⟩ M174 J174 hE174 hx174 ⟨hr_t171_3,hr_t171_5,hr_t171_6⟩
 show DL _ _ _ _ _ _ _ _ _ _ _ _ ((some b130,.cells ((Der.ce t126_0 t126_0_3 t126_0_5 t126_0_6)) 27 (0,0)) :: (some b5,.cells ((Der.ce z_b5_70 z_b5_70_3 z_b5_70_5 z_b5_70_6)) 27 (0,0)) :: J174)
 obtain ⟨⟨t175_0,t175_1⟩,h176,h177⟩:=bind_some h173
 refine DL.callF (G:=Value) (u:=fun g => .tuple #[g,.int .i64 t175_1]) (Q:=fun g M_ => (IntRow M_ .u8 g t175_0)) (A:=[(some b130,.cells ((Der.ce t126_0 t126_0_3 t126_0_5 t126_0_6)) 27 (0,0)),(some b5,.cells ((Der.ce z_b5_70 z_b5_70_3 z_b5_70_5 z_b5_70_6)) 27 (0,0))]) (J:=J174) (fun J178 => ((some b130,.cells ((Der.ce t126_0 t126_0_3 t126_0_5 t126_0_6)) 27 (0,0)) :: (some b5,.cells ((Der.ce z_b5_70 z_b5_70_3 z_b5_70_5 z_b5_70_6)) 27 (0,0)) :: J178)) (Nat.le_refl _) hE174 rfl (fun _ => rfl) (by simp) (i:=2) rfl (Wn.none rfl) rfl rfl rfl rfl rfl rfl (args_val (vs:=[.agg (Der.ce t171 t171_3 t171_5 t171_6)]) rfl) (fun w => enter12 _ w) (fun w hc hI => der_Bytes.ok h176 (M:=M174) w hI (Glob.mono hG (((((((((((((((((((((((hx4.trans hx84).trans hx88).trans hx92).trans hx96).trans hx100).trans hx104).trans hx108).trans hx112).trans hx116).trans hx120).trans hx124).trans hx129).trans hx134).trans hx138).trans hx142).trans hx146).trans hx150).trans hx154).trans hx158).trans hx162).trans hx166).trans hx170).trans hx174)) hr_t171_3 hr_t171_5 hr_t171_6) ?_
 rintro t175_0_v M178 J178 hE178 hx178 hr_t175_0
 show DL _ _ _ _ _ _ _ _ _ _ _ _ ((some b130,.cells ((Der.ce t126_0 t126_0_3 t126_0_5 t126_0_6)) 27 (0,0)) :: (some b5,.cells ((Der.ce z_b5_70 z_b5_70_3 z_b5_70_5 z_b5_70_6)) 27 (0,0)) :: J178)
 refine DL.mv 81 (.tuple #[t175_0_v,.int .i64 t175_1]) rfl rfl rfl ?_
 refine DL.pu 85 (t175_0_v) rfl (p_extract rfl rfl rfl) ?_
 refine DL.pu 86 (.int .i64 t175_1) rfl (p_extract rfl rfl rfl) ?_
 refine DL.pu 19 (t175_0_v) rfl (p_assign rfl rfl) ?_
 refine DL.pu 20 (.int .i64 t175_1) rfl (p_assign rfl rfl) ?_
 refine DL.nil ?_
 refine TT.settle (A:=[(some b130,.cells ((Der.ce t126_0 t126_0_3 t126_0_5 t126_0_6)) 27 (0,0)),(some b5,.cells ((Der.ce z_b5_70 z_b5_70_3 z_b5_70_5 z_b5_70_6)) 27 (0,0))]) (J:=J178) hE178 ?_
 intro I179 hE179 hxI179
 refine TT.seq (x:=sub [1,1,1,1,1,1,1,1,1,1,1,1,0] B7) (y:=sub [1,1,1,1,1,1,1,1,1,1,1,1,1] B7) ?_
 refine TT.rg [0,1,2,3,4,5,6,7] [kk,kk,kk,kp,kp,kp,kp,kp] rfl rfl ?_
 refine DL.newRowI (k:=.u64) (zs:=[2,2147483648]) (n:=2) (A:=[(some b130,.cells ((Der.ce t126_0 t126_0_3 t126_0_5 t126_0_6)) 27 (0,0)),(some b5,.cells ((Der.ce z_b5_70 z_b5_70_3 z_b5_70_5 z_b5_70_6)) 27 (0,0))]) (J:=[]) (fun J182 => ((some b130,.cells ((Der.ce t126_0 t126_0_3 t126_0_5 t126_0_6)) 27 (0,0)) :: (some b5,.cells ((Der.ce z_b5_70 z_b5_70_3 z_b5_70_5 z_b5_70_6)) 27 (0,0)) :: J182)) (Nat.le_refl _) hE179.nil (List.append_nil _).symm (fun _ => rfl) rfl (by decide) (i:=0) rfl (Wn.none rfl) rfl rfl rfl (f_buildSl (n:=2) (zs:=[2,2147483648]) (vs:=[(0,.int .u64 2),(1,.int .u64 2147483648)]) elem24 rfl rfl (by kernel_rfl) rfl (args_val2 rfl)) ?_
 intro v182 M182 J182 hE182 hx182 hr_v182
 show DL _ _ _ _ _ _ _ _ _ _ _ _ ((some b130,.cells ((Der.ce t126_0 t126_0_3 t126_0_5 t126_0_6)) 27 (0,0)) :: (some b5,.cells ((Der.ce z_b5_70 z_b5_70_3 z_b5_70_5 z_b5_70_6)) 27 (0,0)) :: J182)
 obtain ⟨t183,h184,h185⟩:=bind_some h177
 refine DL.callF (G:=Value × Value × Value) (u:=fun g => .agg (Der.ce t183 (g.1) (g.2.1) (g.2.2))) (Q:=fun g M_ => (IntRow M_ .u8 (g.1) (Der.bytes t183)) ∧ (IntRow M_ .u64 (g.2.1) (Der.arcs t183)) ∧ (RowS ShDer M_ (g.2.2) (Tree.kids t183))) (A:=[(some b130,.cells ((Der.ce t126_0 t126_0_3 t126_0_5 t126_0_6)) 27 (0,0)),(some b5,.cells ((Der.ce z_b5_70 z_b5_70_3 z_b5_70_5 z_b5_70_6)) 27 (0,0))]) (J:=J182) (fun J186 => ((some b130,.cells ((Der.ce t126_0 t126_0_3 t126_0_5 t126_0_6)) 27 (0,0)) :: (some b5,.cells ((Der.ce z_b5_70 z_b5_70_3 z_b5_70_5 z_b5_70_6)) 27 (0,0)) :: J186)) (Nat.le_refl _) hE182 rfl (fun _ => rfl) (by simp) (i:=1) rfl (Wn.none rfl) rfl rfl rfl rfl rfl rfl (args_val (vs:=[v182]) rfl) (fun w => enter24 _ w) (fun w hc hI => der_Oid.ok h184 (M:=M182) w hI hr_v182) ?_
 rintro ⟨t183_3,t183_5,t183_6⟩ M186 J186 hE186 hx186 ⟨hr_t183_3,hr_t183_5,hr_t183_6⟩
 show DL _ _ _ _ _ _ _ _ _ _ _ _ ((some b130,.cells ((Der.ce t126_0 t126_0_3 t126_0_5 t126_0_6)) 27 (0,0)) :: (some b5,.cells ((Der.ce z_b5_70 z_b5_70_3 z_b5_70_5 z_b5_70_6)) 27 (0,0)) :: J186)
 obtain ⟨⟨t187_0,t187_1⟩,h188,h189⟩:=bind_some h185
 refine DL.callF (G:=Value) (u:=fun g => .tuple #[g,.int .i64 t187_1]) (Q:=fun g M_ => (IntRow M_ .u8 g t187_0)) (A:=[(some b130,.cells ((Der.ce t126_0 t126_0_3 t126_0_5 t126_0_6)) 27 (0,0)),(some b5,.cells ((Der.ce z_b5_70 z_b5_70_3 z_b5_70_5 z_b5_70_6)) 27 (0,0))]) (J:=J186) (fun J190 => ((some b130,.cells ((Der.ce t126_0 t126_0_3 t126_0_5 t126_0_6)) 27 (0,0)) :: (some b5,.cells ((Der.ce z_b5_70 z_b5_70_3 z_b5_70_5 z_b5_70_6)) 27 (0,0)) :: J190)) (Nat.le_refl _) hE186 rfl (fun _ => rfl) (by simp) (i:=2) rfl (Wn.none rfl) rfl rfl rfl rfl rfl rfl (args_val (vs:=[.agg (Der.ce t183 t183_3 t183_5 t183_6)]) rfl) (fun w => enter12 _ w) (fun w hc hI => der_Bytes.ok h188 (M:=M186) w hI (Glob.mono hG ((((((((((((((((((((((((((hx4.trans hx84).trans hx88).trans hx92).trans hx96).trans hx100).trans hx104).trans hx108).trans hx112).trans hx116).trans hx120).trans hx124).trans hx129).trans hx134).trans hx138).trans hx142).trans hx146).trans hx150).trans hx154).trans hx158).trans hx162).trans hx166).trans hx170).trans hx174).trans hx178).trans hx182).trans hx186)) hr_t183_3 hr_t183_5 hr_t183_6) ?_
 rintro t187_0_v M190 J190 hE190 hx190 hr_t187_0
 show DL _ _ _ _ _ _ _ _ _ _ _ _ ((some b130,.cells ((Der.ce t126_0 t126_0_3 t126_0_5 t126_0_6)) 27 (0,0)) :: (some b5,.cells ((Der.ce z_b5_70 z_b5_70_3 z_b5_70_5 z_b5_70_6)) 27 (0,0)) :: J190)
 refine DL.mv 87 (.tuple #[t187_0_v,.int .i64 t187_1]) rfl rfl rfl ?_
 refine DL.pu 91 (t187_0_v) rfl (p_extract rfl rfl rfl) ?_
 refine DL.pu 92 (.int .i64 t187_1) rfl (p_extract rfl rfl rfl) ?_
 refine DL.pu 21 (t187_0_v) rfl (p_assign rfl rfl) ?_
 refine DL.pu 22 (.int .i64 t187_1) rfl (p_assign rfl rfl) ?_
 refine DL.nil ?_
 refine TT.settle (A:=[(some b130,.cells ((Der.ce t126_0 t126_0_3 t126_0_5 t126_0_6)) 27 (0,0)),(some b5,.cells ((Der.ce z_b5_70 z_b5_70_3 z_b5_70_5 z_b5_70_6)) 27 (0,0))]) (J:=J190) hE190 ?_
 intro I191 hE191 hxI191
 refine TT.seq (x:=sub [1,1,1,1,1,1,1,1,1,1,1,1,1,0] B7) (y:=sub [1,1,1,1,1,1,1,1,1,1,1,1,1,1] B7) ?_
 refine TT.rg [0,1,2,3] [kk,kk,(.alloc,none),(.store,none)] rfl rfl ?_
 refine DL.newRowI (k:=.u8) (zs:=List.replicate 60000 0) (n:=60000) (A:=[(some b130,.cells ((Der.ce t126_0 t126_0_3 t126_0_5 t126_0_6)) 27 (0,0)),(some b5,.cells ((Der.ce z_b5_70 z_b5_70_3 z_b5_70_5 z_b5_70_6)) 27 (0,0))]) (J:=[]) (fun J194 => ((some b130,.cells ((Der.ce t126_0 t126_0_3 t126_0_5 t126_0_6)) 27 (0,0)) :: (some b5,.cells ((Der.ce z_b5_70 z_b5_70_3 z_b5_70_5 z_b5_70_6)) 27 (0,0)) :: J194)) (Nat.le_refl _) hE191.nil (List.append_nil _).symm (fun _ => rfl) List.length_replicate (by decide) (i:=0) rfl (Wn.none rfl) rfl rfl rfl (f_make (n:=60000) elem23 (by decide) (by decide) rfl rfl rfl) ?_
 intro v194 M194 J194 hE194 hx194 hr_v194
 show DL _ _ _ _ _ _ _ _ _ _ _ _ ((some b130,.cells ((Der.ce t126_0 t126_0_3 t126_0_5 t126_0_6)) 27 (0,0)) :: (some b5,.cells ((Der.ce z_b5_70 z_b5_70_3 z_b5_70_5 z_b5_70_6)) 27 (0,0)) :: J194)
 obtain ⟨t195,h196,h197⟩:=bind_some h189
 refine DL.callF (G:=Value × Value × Value) (u:=fun g => .agg (Der.ce t195 (g.1) (g.2.1) (g.2.2))) (Q:=fun g M_ => (IntRow M_ .u8 (g.1) (Der.bytes t195)) ∧ (IntRow M_ .u64 (g.2.1) (Der.arcs t195)) ∧ (RowS ShDer M_ (g.2.2) (Tree.kids t195))) (A:=[(some b130,.cells ((Der.ce t126_0 t126_0_3 t126_0_5 t126_0_6)) 27 (0,0)),(some b5,.cells ((Der.ce z_b5_70 z_b5_70_3 z_b5_70_5 z_b5_70_6)) 27 (0,0))]) (J:=J194) (fun J198 => ((some b130,.cells ((Der.ce t126_0 t126_0_3 t126_0_5 t126_0_6)) 27 (0,0)) :: (some b5,.cells ((Der.ce z_b5_70 z_b5_70_3 z_b5_70_5 z_b5_70_6)) 27 (0,0)) :: J198)) (Nat.le_refl _) hE194 rfl (fun _ => rfl) (by simp) (i:=1) rfl (Wn.none rfl) rfl rfl rfl rfl rfl rfl (args_val (vs:=[v194]) rfl) (fun w => enter23 _ w) (fun w hc hI => der_Octets.ok h196 (M:=M194) w hI hr_v194) ?_
 rintro ⟨t195_3,t195_5,t195_6⟩ M198 J198 hE198 hx198 ⟨hr_t195_3,hr_t195_5,hr_t195_6⟩
 show DL _ _ _ _ _ _ _ _ _ _ _ _ ((some b130,.cells ((Der.ce t126_0 t126_0_3 t126_0_5 t126_0_6)) 27 (0,0)) :: (some b5,.cells ((Der.ce z_b5_70 z_b5_70_3 z_b5_70_5 z_b5_70_6)) 27 (0,0)) :: J198)
 refine DL.new (ob:=.cells (#[.int .i64 0,.bool false,.int .i64 0,(.slice none 0 0),str ([] : List UInt8),(.slice none 0 0),(.slice none 0 0)]) 27) (mk:=fun b => ptr b 0) (i:=2) rfl (Wn.none rfl) rfl rfl rfl (f_alloc ty_z27 rfl) ?_
 intro b199 hb199
 refine DL.put (H':=((some b199,.cells ((Der.ce t195 t195_3 t195_5 t195_6)) 27 (0,0)) :: (some b130,.cells ((Der.ce t126_0 t126_0_3 t126_0_5 t126_0_6)) 27 (0,0)) :: (some b5,.cells ((Der.ce z_b5_70 z_b5_70_3 z_b5_70_5 z_b5_70_6)) 27 (0,0)) :: J198)) (i:=3) rfl (Wn.none rfl) rfl rfl (f_storeA (j:=0) ty_s27 rfl rfl rfl (one_cons trivial (one_cons trivial (one_cons trivial (one_cons (sl_one (RowV.sl hr_t195_3)) (one_cons trivial (one_cons (sl_one (RowV.sl hr_t195_5)) (one_cons (sl_one (RowS.sl hr_t195_6)) one_nil))))))) rfl rfl rfl) (keep_none rfl) ?_
 refine DL.nil ?_
 refine TT.settle (A:=[(some b199,.cells ((Der.ce t195 t195_3 t195_5 t195_6)) 27 (0,0)),(some b130,.cells ((Der.ce t126_0 t126_0_3 t126_0_5 t126_0_6)) 27 (0,0)),(some b5,.cells ((Der.ce z_b5_70 z_b5_70_3 z_b5_70_5 z_b5_70_6)) 27 (0,0))]) (J:=J198) hE198 ?_
 intro I200 hE200 hxI200
 refine TT.seq (x:=sub [1,1,1,1,1,1,1,1,1,1,1,1,1,1,0] B7) (y:=sub [1,1,1,1,1,1,1,1,1,1,1,1,1,1,1] B7) ?_
 refine TT.rg [0,1,2,3,4,5,6,7,8,9,10] [kq,kq,kq,kk,kk,kk,kp,kp,kp,kp,kp] rfl rfl ?_
 refine DL.qu 96 (.agg (Der.ce t195 t195_3 t195_5 t195_6)) rfl (f_loadA (j:=0) ty_a27 ty_s27 rfl rfl rfl rfl) ?_
 refine DL.qu 97 (.agg (Der.ce t195 t195_3 t195_5 t195_6)) rfl (f_loadA (j:=0) ty_a27 ty_s27 rfl rfl rfl rfl) ?_
 refine DL.qu 98 (.agg (Der.ce t195 t195_3 t195_5 t195_6)) rfl (f_loadA (j:=0) ty_a27 ty_s27 rfl rfl rfl rfl) ?_
 refine DL.newRowS (s:=ShDer) (zs:=[t195,t195,t195]) (cells:=[.int .i64 (Der.kind t195),.bool (Der.flag t195),.int .i64 (Der.num t195),t195_3,str (Der.text t195),t195_5,t195_6,.int .i64 (Der.kind t195),.bool (Der.flag t195),.int .i64 (Der.num t195),t195_3,str (Der.text t195),t195_5,t195_6,.int .i64 (Der.kind t195),.bool (Der.flag t195),.int .i64 (Der.num t195),t195_3,str (Der.text t195),t195_5,t195_6]) (n:=3) (A:=[(some b199,.cells ((Der.ce t195 t195_3 t195_5 t195_6)) 27 (0,0)),(some b130,.cells ((Der.ce t126_0 t126_0_3 t126_0_5 t126_0_6)) 27 (0,0)),(some b5,.cells ((Der.ce z_b5_70 z_b5_70_3 z_b5_70_5 z_b5_70_6)) 27 (0,0))]) (J:=[]) (fun J203 => ((some b199,.cells ((Der.ce t195 t195_3 t195_5 t195_6)) 27 (0,0)) :: (some b130,.cells ((Der.ce t126_0 t126_0_3 t126_0_5 t126_0_6)) 27 (0,0)) :: (some b5,.cells ((Der.ce z_b5_70 z_b5_70_3 z_b5_70_5 z_b5_70_6)) 27 (0,0)) :: J203)) (Nat.le_refl _) hE200.nil (List.append_nil _).symm (fun _ => rfl) rfl (by decide) rfl (fun i x hx => by match i,hx with | 0,hx => cases hx; exact (Der.cl (t:=t195) hr_t195_3 hr_t195_5 hr_t195_6) | 1,hx => cases hx; exact (Der.cl (t:=t195) hr_t195_3 hr_t195_5 hr_t195_6) | 2,hx => cases hx; exact (Der.cl (t:=t195) hr_t195_3 hr_t195_5 hr_t195_6) | k + 3,hx => simp at hx) (i:=3) rfl (Wn.none rfl) rfl rfl rfl (f_buildS (n:=3) (vs:=[(0,.agg (Der.ce t195 t195_3 t195_5 t195_6)),(1,.agg (Der.ce t195 t195_3 t195_5 t195_6)),(2,.agg (Der.ce t195 t195_3 t195_5 t195_6))]) elem25 rfl rfl (by kernel_rfl) rfl (args_val2 rfl)) ?_
 intro v203 M203 J203 hE203 hx203 hr_v203
 show DL _ _ _ _ _ _ _ _ _ _ _ _ ((some b199,.cells ((Der.ce t195 t195_3 t195_5 t195_6)) 27 (0,0)) :: (some b130,.cells ((Der.ce t126_0 t126_0_3 t126_0_5 t126_0_6)) 27 (0,0)) :: (some b5,.cells ((Der.ce z_b5_70 z_b5_70_3 z_b5_70_5 z_b5_70_6)) 27 (0,0)) :: J203)
 obtain ⟨t204,h205,h206⟩:=bind_some h197
 refine DL.callF (G:=Value × Value × Value) (u:=fun g => .agg (Der.ce t204 (g.1) (g.2.1) (g.2.2))) (Q:=fun g M_ => (IntRow M_ .u8 (g.1) (Der.bytes t204)) ∧ (IntRow M_ .u64 (g.2.1) (Der.arcs t204)) ∧ (RowS ShDer M_ (g.2.2) (Tree.kids t204))) (A:=[(some b199,.cells ((Der.ce t195 t195_3 t195_5 t195_6)) 27 (0,0)),(some b130,.cells ((Der.ce t126_0 t126_0_3 t126_0_5 t126_0_6)) 27 (0,0)),(some b5,.cells ((Der.ce z_b5_70 z_b5_70_3 z_b5_70_5 z_b5_70_6)) 27 (0,0))]) (J:=J203) (fun J207 => ((some b199,.cells ((Der.ce t195 t195_3 t195_5 t195_6)) 27 (0,0)) :: (some b130,.cells ((Der.ce t126_0 t126_0_3 t126_0_5 t126_0_6)) 27 (0,0)) :: (some b5,.cells ((Der.ce z_b5_70 z_b5_70_3 z_b5_70_5 z_b5_70_6)) 27 (0,0)) :: J207)) (Nat.le_refl _) hE203 rfl (fun _ => rfl) (by simp) (i:=4) rfl (Wn.none rfl) rfl rfl rfl rfl rfl rfl (args_val (vs:=[v203]) rfl) (fun w => enter22 _ w) (fun w hc hI => der_Seq.ok h205 (M:=M203) w hI hr_v203) ?_
 rintro ⟨t204_3,t204_5,t204_6⟩ M207 J207 hE207 hx207 ⟨hr_t204_3,hr_t204_5,hr_t204_6⟩
 show DL _ _ _ _ _ _ _ _ _ _ _ _ ((some b199,.cells ((Der.ce t195 t195_3 t195_5 t195_6)) 27 (0,0)) :: (some b130,.cells ((Der.ce t126_0 t126_0_3 t126_0_5 t126_0_6)) 27 (0,0)) :: (some b5,.cells ((Der.ce z_b5_70 z_b5_70_3 z_b5_70_5 z_b5_70_6)) 27 (0,0)) :: J207)
 obtain ⟨⟨t208_0,t208_1⟩,h209,h210⟩:=bind_some h206
 refine DL.callF (G:=Value) (u:=fun g => .tuple #[g,.int .i64 t208_1]) (Q:=fun g M_ => (IntRow M_ .u8 g t208_0)) (A:=[(some b199,.cells ((Der.ce t195 t195_3 t195_5 t195_6)) 27 (0,0)),(some b130,.cells ((Der.ce t126_0 t126_0_3 t126_0_5 t126_0_6)) 27 (0,0)),(some b5,.cells ((Der.ce z_b5_70 z_b5_70_3 z_b5_70_5 z_b5_70_6)) 27 (0,0))]) (J:=J207) (fun J211 => ((some b199,.cells ((Der.ce t195 t195_3 t195_5 t195_6)) 27 (0,0)) :: (some b130,.cells ((Der.ce t126_0 t126_0_3 t126_0_5 t126_0_6)) 27 (0,0)) :: (some b5,.cells ((Der.ce z_b5_70 z_b5_70_3 z_b5_70_5 z_b5_70_6)) 27 (0,0)) :: J211)) (Nat.le_refl _) hE207 rfl (fun _ => rfl) (by simp) (i:=5) rfl (Wn.none rfl) rfl rfl rfl rfl rfl rfl (args_val (vs:=[.agg (Der.ce t204 t204_3 t204_5 t204_6)]) rfl) (fun w => enter12 _ w) (fun w hc hI => der_Bytes.ok h209 (M:=M207) w hI (Glob.mono hG (((((((((((((((((((((((((((((((hx4.trans hx84).trans hx88).trans hx92).trans hx96).trans hx100).trans hx104).trans hx108).trans hx112).trans hx116).trans hx120).trans hx124).trans hx129).trans hx134).trans hx138).trans hx142).trans hx146).trans hx150).trans hx154).trans hx158).trans hx162).trans hx166).trans hx170).trans hx174).trans hx178).trans hx182).trans hx186).trans hx190).trans hx194).trans hx198).trans hx203).trans hx207)) hr_t204_3 hr_t204_5 hr_t204_6) ?_
 rintro t208_0_v M211 J211 hE211 hx211 hr_t208_0
 show DL _ _ _ _ _ _ _ _ _ _ _ _ ((some b199,.cells ((Der.ce t195 t195_3 t195_5 t195_6)) 27 (0,0)) :: (some b130,.cells ((Der.ce t126_0 t126_0_3 t126_0_5 t126_0_6)) 27 (0,0)) :: (some b5,.cells ((Der.ce z_b5_70 z_b5_70_3 z_b5_70_5 z_b5_70_6)) 27 (0,0)) :: J211)
 refine DL.mv 95 (.tuple #[t208_0_v,.int .i64 t208_1]) rfl rfl rfl ?_
 refine DL.pu 102 (t208_0_v) rfl (p_extract rfl rfl rfl) ?_
 refine DL.pu 103 (.int .i64 t208_1) rfl (p_extract rfl rfl rfl) ?_
 refine DL.pu 24 (t208_0_v) rfl (p_assign rfl rfl) ?_
 refine DL.pu 25 (.int .i64 t208_1) rfl (p_assign rfl rfl) ?_
 refine DL.nil ?_
 refine TT.settle (A:=[(some b199,.cells ((Der.ce t195 t195_3 t195_5 t195_6)) 27 (0,0)),(some b130,.cells ((Der.ce t126_0 t126_0_3 t126_0_5 t126_0_6)) 27 (0,0)),(some b5,.cells ((Der.ce z_b5_70 z_b5_70_3 z_b5_70_5 z_b5_70_6)) 27 (0,0))]) (J:=J211) hE211 ?_
 intro I212 hE212 hxI212
 refine TT.seq (x:=sub [1,1,1,1,1,1,1,1,1,1,1,1,1,1,1,0] B7) (y:=sub [1,1,1,1,1,1,1,1,1,1,1,1,1,1,1,1] B7) ?_
 refine TT.rg [0,1,2,3,4,5,6,7,8,9,10,11,12,13,14,15,16,17,18,19,20,21,22,23,24,25,26,27,28,29,30,31,32,33,34,35,36,37,38,39,40,41,42,43,44,45,46,47,48,49,50,51,52,53,54,55,56,57,58,59,60,61] [kp,kq,kp,kp,kp,kq,kp,kp,kp,kp,kq,kp,kp,kp,kp,kp,kp,kp,kp,kp,kq,kp,kp,kp,kp,kq,kp,kp,kp,kp,kq,kp,kp,kp,kp,kq,kp,kp,kp,kp,kq,kp,kp,kp,kp,kq,kp,kp,kp,kp,kq,kp,kp,kp,kp,kq,kp,kp,kp,kq,kp,kp] rfl rfl ?_
 refine DL.mv 104 (.int .i64 t85_1) rfl rfl rfl ?_
 obtain ⟨t213,h214,h215⟩:=bind_some h210
 refine DL.qu 105 (.int .i64 t213) rfl (f_callR rfl rfl (args_val (vs:=[.int .i64 t85_1]) rfl) (fun w => enter16 _ w) (fun w hc => law13_num.val h214 (M:=M211) w (hE212.ext hc) )) ?_
 refine DL.pu 106 (.bool (t213 == 0)) rfl (p_eql rfl rfl rfl) ?_
 refine DL.mv 107 (.bool (t213 == 0)) rfl rfl rfl ?_
 obtain ⟨q217,h218,h219⟩:=bind_some h215
 refine DL.cut [(7,t109_0_v),(8,.int .i64 t109_1),(10,.int .i64 t121_1),(12,.int .i64 t126_1),(14,.int .i64 t139_1),(16,.int .i64 t151_1),(18,.int .i64 t163_1),(20,.int .i64 t175_1),(22,.int .i64 t187_1),(25,.int .i64 t208_1),(111,.bool q217)] [8,9,10,11,12,13,14,15,16,17,18,19,20,21,22,23,24,25,26,27,28,29,30,31,32,33,34,35,36,37,38,39,40,41,42,43,44,45,46,47,48,49,50,51,52,53,54,55,56,57,58,59,60,61] ?_ (fun J220 => ?_)
 ·
  refine DL.mv 112 (.bool q217) rfl rfl rfl ?_
  obtain ⟨q228,h229,h230⟩:=bind_some h219
  refine DL.cut [(7,t109_0_v),(10,.int .i64 t121_1),(12,.int .i64 t126_1),(14,.int .i64 t139_1),(16,.int .i64 t151_1),(18,.int .i64 t163_1),(20,.int .i64 t175_1),(22,.int .i64 t187_1),(25,.int .i64 t208_1),(116,.bool q228)] [13,14,15,16,17,18,19,20,21,22,23,24,25,26,27,28,29,30,31,32,33,34,35,36,37,38,39,40,41,42,43,44,45,46,47,48,49,50,51,52,53,54,55,56,57,58,59,60,61] ?_ (fun J231 => ?_)
  ·
   refine DL.mv 117 (.bool q228) rfl rfl rfl ?_
   obtain ⟨q239,h240,h241⟩:=bind_some h230
   refine DL.cut [(10,.int .i64 t121_1),(12,.int .i64 t126_1),(14,.int .i64 t139_1),(16,.int .i64 t151_1),(18,.int .i64 t163_1),(20,.int .i64 t175_1),(22,.int .i64 t187_1),(25,.int .i64 t208_1),(121,.bool q239)] [18,19,20,21,22,23,24,25,26,27,28,29,30,31,32,33,34,35,36,37,38,39,40,41,42,43,44,45,46,47,48,49,50,51,52,53,54,55,56,57,58,59,60,61] ?_ (fun J242 => ?_)
   ·
    refine DL.mv 122 (.bool q239) rfl rfl rfl ?_
    obtain ⟨q247,h248,h249⟩:=bind_some h241
    refine DL.cut [(12,.int .i64 t126_1),(14,.int .i64 t139_1),(16,.int .i64 t151_1),(18,.int .i64 t163_1),(20,.int .i64 t175_1),(22,.int .i64 t187_1),(25,.int .i64 t208_1),(126,.bool q247)] [23,24,25,26,27,28,29,30,31,32,33,34,35,36,37,38,39,40,41,42,43,44,45,46,47,48,49,50,51,52,53,54,55,56,57,58,59,60,61] ?_ (fun J250 => ?_)
    ·
     refine DL.mv 127 (.bool q247) rfl rfl rfl ?_
     obtain ⟨q258,h259,h260⟩:=bind_some h249
     refine DL.cut [(14,.int .i64 t139_1),(16,.int .i64 t151_1),(18,.int .i64 t163_1),(20,.int .i64 t175_1),(22,.int .i64 t187_1),(25,.int .i64 t208_1),(131,.bool q258)] [28,29,30,31,32,33,34,35,36,37,38,39,40,41,42,43,44,45,46,47,48,49,50,51,52,53,54,55,56,57,58,59,60,61] ?_ (fun J261 => ?_)
     ·
      refine DL.mv 132 (.bool q258) rfl rfl rfl ?_
      obtain ⟨q269,h270,h271⟩:=bind_some h260
      refine DL.cut [(16,.int .i64 t151_1),(18,.int .i64 t163_1),(20,.int .i64 t175_1),(22,.int .i64 t187_1),(25,.int .i64 t208_1),(136,.bool q269)] [33,34,35,36,37,38,39,40,41,42,43,44,45,46,47,48,49,50,51,52,53,54,55,56,57,58,59,60,61] ?_ (fun J272 => ?_)
      ·
       refine DL.mv 137 (.bool q269) rfl rfl rfl ?_
       obtain ⟨q280,h281,h282⟩:=bind_some h271
       refine DL.cut [(18,.int .i64 t163_1),(20,.int .i64 t175_1),(22,.int .i64 t187_1),(25,.int .i64 t208_1),(141,.bool q280)] [38,39,40,41,42,43,44,45,46,47,48,49,50,51,52,53,54,55,56,57,58,59,60,61] ?_ (fun J283 => ?_)
       ·
        refine DL.mv 142 (.bool q280) rfl rfl rfl ?_
        obtain ⟨q291,h292,h293⟩:=bind_some h282
        refine DL.cut [(20,.int .i64 t175_1),(22,.int .i64 t187_1),(25,.int .i64 t208_1),(146,.bool q291)] [43,44,45,46,47,48,49,50,51,52,53,54,55,56,57,58,59,60,61] ?_ (fun J294 => ?_)
        ·
         refine DL.mv 147 (.bool q291) rfl rfl rfl ?_
         obtain ⟨q302,h303,h304⟩:=bind_some h293
         refine DL.cut [(22,.int .i64 t187_1),(25,.int .i64 t208_1),(151,.bool q302)] [48,49,50,51,52,53,54,55,56,57,58,59,60,61] ?_ (fun J305 => ?_)
         ·
          refine DL.mv 152 (.bool q302) rfl rfl rfl ?_
          obtain ⟨q313,h314,h315⟩:=bind_some h304
          refine DL.cut [(25,.int .i64 t208_1),(156,.bool q313)] [53,54,55,56,57,58,59,60,61] ?_ (fun J316 => ?_)
          ·
           refine DL.mv 157 (.bool q313) rfl rfl rfl ?_
           obtain ⟨q324,h325,h326⟩:=bind_some h315
           refine DL.cut [(161,.bool q324)] [58,59,60,61] ?_ (fun J327 => ?_)
           ·
            refine DL.mv 162 (.bool q324) rfl rfl rfl ?_
            obtain ⟨q335,h336,h337⟩:=bind_some h326
            refine DL.cut [(164,.bool q335)] [61] ?_ (fun J338 => ?_)
            ·
             refine DL.pu 0 (.bool q335) rfl (p_assign rfl rfl) ?_
             refine DL.nil ?_
             obtain rfl:=Option.some.inj h337
             exact retnE (rs:=[.tmp 0]) (vs:=[.bool q335]) hE212.base Tryd.func7 rfl rfl rfl (res_cons (ResV.tmp rfl) res_nil) rfl
            ·
             by_cases c339 : q324 = true
             ·
              have h340:=ite_true c339 h336
              obtain ⟨t341,h342,h343⟩:=bind_some h340
              refine DL.quiet (v:=.bool t341) rfl (Wn.yes c339 rfl rfl rfl rfl) rfl rfl rfl (f_callR rfl rfl (args_val (vs:=[]) rfl) (fun w => enter11 _ w) (fun w hc => law13_known.val h342 (M:=M211) w (hE212.ext hc) (Glob.mono hG ((((((((((((((((((((((((((((((((hx4.trans hx84).trans hx88).trans hx92).trans hx96).trans hx100).trans hx104).trans hx108).trans hx112).trans hx116).trans hx120).trans hx124).trans hx129).trans hx134).trans hx138).trans hx142).trans hx146).trans hx150).trans hx154).trans hx158).trans hx162).trans hx166).trans hx170).trans hx174).trans hx178).trans hx182).trans hx186).trans hx190).trans hx194).trans hx198).trans hx203).trans hx207).trans hx211)))) ?_
              refine DL.pu 164 (.bool t341) rfl (p_pick_t c339 rfl rfl rfl) ?_
              obtain rfl:=Option.some.inj h343
              exact DL.weak J338 (Sub.cons rfl (Sub.nil _))
             ·
              replace c339:=Bool.eq_false_iff.mpr c339
              have h344:=ite_false c339 h336
              refine DL.not (i:=59) rfl (Wn.no c339 rfl rfl rfl rfl) rfl rfl ?_
              refine DL.pu 164 (.bool false) rfl (p_pick_f c339 rfl rfl rfl) ?_
              obtain rfl:=Option.some.inj h344
              exact DL.weak J338 (Sub.cons rfl (Sub.nil _))
           ·
            by_cases c328 : q313 = true
            ·
             have h329:=ite_true c328 h325
             refine DL.pure (v:=.int .i64 t208_1) rfl (Wn.yes c328 rfl rfl rfl rfl) rfl rfl rfl (p_move rfl rfl) ?_
             obtain ⟨t330,h331,h332⟩:=bind_some h329
             refine DL.quiet (v:=.int .i64 t330) rfl (Wn.yes c328 rfl rfl rfl rfl) rfl rfl rfl (f_callR rfl rfl (args_val (vs:=[.int .i64 t208_1]) rfl) (fun w => enter16 _ w) (fun w hc => law13_num.val h331 (M:=M211) w (hE212.ext hc) )) ?_
             refine DL.pure (v:=.bool (t330 == 3)) rfl (Wn.yes c328 rfl rfl rfl rfl) rfl rfl rfl (p_eql rfl rfl rfl) ?_
             refine DL.pu 161 (.bool (t330 == 3)) rfl (p_pick_t c328 rfl rfl rfl) ?_
             obtain rfl:=Option.some.inj h332
             exact DL.weak J327 (Sub.cons rfl (Sub.nil _))
            ·
             replace c328:=Bool.eq_false_iff.mpr c328
             have h333:=ite_false c328 h325
             refine DL.not (i:=54) rfl (Wn.no c328 rfl rfl rfl rfl) rfl rfl ?_
             refine DL.not (i:=55) rfl (Wn.no c328 rfl rfl rfl rfl) rfl rfl ?_
             refine DL.not (i:=56) rfl (Wn.no c328 rfl rfl rfl rfl) rfl rfl ?_
             refine DL.pu 161 (.bool false) rfl (p_pick_f c328 rfl rfl rfl) ?_
             obtain rfl:=Option.some.inj h333
             exact DL.weak J327 (Sub.cons rfl (Sub.nil _))
          ·
           by_cases c317 : q302 = true
           ·
            have h318:=ite_true c317 h314
            refine DL.pure (v:=.int .i64 t187_1) rfl (Wn.yes c317 rfl rfl rfl rfl) rfl rfl rfl (p_move rfl rfl) ?_
            obtain ⟨t319,h320,h321⟩:=bind_some h318
            refine DL.quiet (v:=.int .i64 t319) rfl (Wn.yes c317 rfl rfl rfl rfl) rfl rfl rfl (f_callR rfl rfl (args_val (vs:=[.int .i64 t187_1]) rfl) (fun w => enter16 _ w) (fun w hc => law13_num.val h320 (M:=M211) w (hE212.ext hc) )) ?_
            refine DL.pure (v:=.bool (t319 == 2)) rfl (Wn.yes c317 rfl rfl rfl rfl) rfl rfl rfl (p_eql rfl rfl rfl) ?_
            refine DL.pu 156 (.bool (t319 == 2)) rfl (p_pick_t c317 rfl rfl rfl) ?_
            obtain rfl:=Option.some.inj h321
            exact DL.weak J316 (Sub.cons rfl (Sub.cons rfl (Sub.nil _)))
           ·
            replace c317:=Bool.eq_false_iff.mpr c317
            have h322:=ite_false c317 h314
            refine DL.not (i:=49) rfl (Wn.no c317 rfl rfl rfl rfl) rfl rfl ?_
            refine DL.not (i:=50) rfl (Wn.no c317 rfl rfl rfl rfl) rfl rfl ?_
            refine DL.not (i:=51) rfl (Wn.no c317 rfl rfl rfl rfl) rfl rfl ?_
            refine DL.pu 156 (.bool false) rfl (p_pick_f c317 rfl rfl rfl) ?_
            obtain rfl:=Option.some.inj h322
            exact DL.weak J316 (Sub.cons rfl (Sub.cons rfl (Sub.nil _)))
         ·
          by_cases c306 : q291 = true
          ·
           have h307:=ite_true c306 h303
           refine DL.pure (v:=.int .i64 t175_1) rfl (Wn.yes c306 rfl rfl rfl rfl) rfl rfl rfl (p_move rfl rfl) ?_
           obtain ⟨t308,h309,h310⟩:=bind_some h307
           refine DL.quiet (v:=.int .i64 t308) rfl (Wn.yes c306 rfl rfl rfl rfl) rfl rfl rfl (f_callR rfl rfl (args_val (vs:=[.int .i64 t175_1]) rfl) (fun w => enter16 _ w) (fun w hc => law13_num.val h309 (M:=M211) w (hE212.ext hc) )) ?_
           refine DL.pure (v:=.bool (t308 == 2)) rfl (Wn.yes c306 rfl rfl rfl rfl) rfl rfl rfl (p_eql rfl rfl rfl) ?_
           refine DL.pu 151 (.bool (t308 == 2)) rfl (p_pick_t c306 rfl rfl rfl) ?_
           obtain rfl:=Option.some.inj h310
           exact DL.weak J305 (Sub.cons rfl (Sub.cons rfl (Sub.cons rfl (Sub.nil _))))
          ·
           replace c306:=Bool.eq_false_iff.mpr c306
           have h311:=ite_false c306 h303
           refine DL.not (i:=44) rfl (Wn.no c306 rfl rfl rfl rfl) rfl rfl ?_
           refine DL.not (i:=45) rfl (Wn.no c306 rfl rfl rfl rfl) rfl rfl ?_
           refine DL.not (i:=46) rfl (Wn.no c306 rfl rfl rfl rfl) rfl rfl ?_
           refine DL.pu 151 (.bool false) rfl (p_pick_f c306 rfl rfl rfl) ?_
           obtain rfl:=Option.some.inj h311
           exact DL.weak J305 (Sub.cons rfl (Sub.cons rfl (Sub.cons rfl (Sub.nil _))))
        ·
         by_cases c295 : q280 = true
         ·
          have h296:=ite_true c295 h292
          refine DL.pure (v:=.int .i64 t163_1) rfl (Wn.yes c295 rfl rfl rfl rfl) rfl rfl rfl (p_move rfl rfl) ?_
          obtain ⟨t297,h298,h299⟩:=bind_some h296
          refine DL.quiet (v:=.int .i64 t297) rfl (Wn.yes c295 rfl rfl rfl rfl) rfl rfl rfl (f_callR rfl rfl (args_val (vs:=[.int .i64 t163_1]) rfl) (fun w => enter16 _ w) (fun w hc => law13_num.val h298 (M:=M211) w (hE212.ext hc) )) ?_
          refine DL.pure (v:=.bool (t297 == 0)) rfl (Wn.yes c295 rfl rfl rfl rfl) rfl rfl rfl (p_eql rfl rfl rfl) ?_
          refine DL.pu 146 (.bool (t297 == 0)) rfl (p_pick_t c295 rfl rfl rfl) ?_
          obtain rfl:=Option.some.inj h299
          exact DL.weak J294 (Sub.cons rfl (Sub.cons rfl (Sub.cons rfl (Sub.cons rfl (Sub.nil _)))))
         ·
          replace c295:=Bool.eq_false_iff.mpr c295
          have h300:=ite_false c295 h292
          refine DL.not (i:=39) rfl (Wn.no c295 rfl rfl rfl rfl) rfl rfl ?_
          refine DL.not (i:=40) rfl (Wn.no c295 rfl rfl rfl rfl) rfl rfl ?_
          refine DL.not (i:=41) rfl (Wn.no c295 rfl rfl rfl rfl) rfl rfl ?_
          refine DL.pu 146 (.bool false) rfl (p_pick_f c295 rfl rfl rfl) ?_
          obtain rfl:=Option.some.inj h300
          exact DL.weak J294 (Sub.cons rfl (Sub.cons rfl (Sub.cons rfl (Sub.cons rfl (Sub.nil _)))))
       ·
        by_cases c284 : q269 = true
        ·
         have h285:=ite_true c284 h281
         refine DL.pure (v:=.int .i64 t151_1) rfl (Wn.yes c284 rfl rfl rfl rfl) rfl rfl rfl (p_move rfl rfl) ?_
         obtain ⟨t286,h287,h288⟩:=bind_some h285
         refine DL.quiet (v:=.int .i64 t286) rfl (Wn.yes c284 rfl rfl rfl rfl) rfl rfl rfl (f_callR rfl rfl (args_val (vs:=[.int .i64 t151_1]) rfl) (fun w => enter16 _ w) (fun w hc => law13_num.val h287 (M:=M211) w (hE212.ext hc) )) ?_
         refine DL.pure (v:=.bool (t286 == 2)) rfl (Wn.yes c284 rfl rfl rfl rfl) rfl rfl rfl (p_eql rfl rfl rfl) ?_
         refine DL.pu 141 (.bool (t286 == 2)) rfl (p_pick_t c284 rfl rfl rfl) ?_
         obtain rfl:=Option.some.inj h288
         exact DL.weak J283 (Sub.cons rfl (Sub.cons rfl (Sub.cons rfl (Sub.cons rfl (Sub.cons rfl (Sub.nil _))))))
        ·
         replace c284:=Bool.eq_false_iff.mpr c284
         have h289:=ite_false c284 h281
         refine DL.not (i:=34) rfl (Wn.no c284 rfl rfl rfl rfl) rfl rfl ?_
         refine DL.not (i:=35) rfl (Wn.no c284 rfl rfl rfl rfl) rfl rfl ?_
         refine DL.not (i:=36) rfl (Wn.no c284 rfl rfl rfl rfl) rfl rfl ?_
         refine DL.pu 141 (.bool false) rfl (p_pick_f c284 rfl rfl rfl) ?_
         obtain rfl:=Option.some.inj h289
         exact DL.weak J283 (Sub.cons rfl (Sub.cons rfl (Sub.cons rfl (Sub.cons rfl (Sub.cons rfl (Sub.nil _))))))
      ·
       by_cases c273 : q258 = true
       ·
        have h274:=ite_true c273 h270
        refine DL.pure (v:=.int .i64 t139_1) rfl (Wn.yes c273 rfl rfl rfl rfl) rfl rfl rfl (p_move rfl rfl) ?_
        obtain ⟨t275,h276,h277⟩:=bind_some h274
        refine DL.quiet (v:=.int .i64 t275) rfl (Wn.yes c273 rfl rfl rfl rfl) rfl rfl rfl (f_callR rfl rfl (args_val (vs:=[.int .i64 t139_1]) rfl) (fun w => enter16 _ w) (fun w hc => law13_num.val h276 (M:=M211) w (hE212.ext hc) )) ?_
        refine DL.pure (v:=.bool (t275 == 0)) rfl (Wn.yes c273 rfl rfl rfl rfl) rfl rfl rfl (p_eql rfl rfl rfl) ?_
        refine DL.pu 136 (.bool (t275 == 0)) rfl (p_pick_t c273 rfl rfl rfl) ?_
        obtain rfl:=Option.some.inj h277
        exact DL.weak J272 (Sub.cons rfl (Sub.cons rfl (Sub.cons rfl (Sub.cons rfl (Sub.cons rfl (Sub.cons rfl (Sub.nil _)))))))
       ·
        replace c273:=Bool.eq_false_iff.mpr c273
        have h278:=ite_false c273 h270
        refine DL.not (i:=29) rfl (Wn.no c273 rfl rfl rfl rfl) rfl rfl ?_
        refine DL.not (i:=30) rfl (Wn.no c273 rfl rfl rfl rfl) rfl rfl ?_
        refine DL.not (i:=31) rfl (Wn.no c273 rfl rfl rfl rfl) rfl rfl ?_
        refine DL.pu 136 (.bool false) rfl (p_pick_f c273 rfl rfl rfl) ?_
        obtain rfl:=Option.some.inj h278
        exact DL.weak J272 (Sub.cons rfl (Sub.cons rfl (Sub.cons rfl (Sub.cons rfl (Sub.cons rfl (Sub.cons rfl (Sub.nil _)))))))
     ·
      by_cases c262 : q247 = true
      ·
       have h263:=ite_true c262 h259
       refine DL.pure (v:=.int .i64 t126_1) rfl (Wn.yes c262 rfl rfl rfl rfl) rfl rfl rfl (p_move rfl rfl) ?_
       obtain ⟨t264,h265,h266⟩:=bind_some h263
       refine DL.quiet (v:=.int .i64 t264) rfl (Wn.yes c262 rfl rfl rfl rfl) rfl rfl rfl (f_callR rfl rfl (args_val (vs:=[.int .i64 t126_1]) rfl) (fun w => enter16 _ w) (fun w hc => law13_num.val h265 (M:=M211) w (hE212.ext hc) )) ?_
       refine DL.pure (v:=.bool (t264 == 0)) rfl (Wn.yes c262 rfl rfl rfl rfl) rfl rfl rfl (p_eql rfl rfl rfl) ?_
       refine DL.pu 131 (.bool (t264 == 0)) rfl (p_pick_t c262 rfl rfl rfl) ?_
       obtain rfl:=Option.some.inj h266
       exact DL.weak J261 (Sub.cons rfl (Sub.cons rfl (Sub.cons rfl (Sub.cons rfl (Sub.cons rfl (Sub.cons rfl (Sub.cons rfl (Sub.nil _))))))))
      ·
       replace c262:=Bool.eq_false_iff.mpr c262
       have h267:=ite_false c262 h259
       refine DL.not (i:=24) rfl (Wn.no c262 rfl rfl rfl rfl) rfl rfl ?_
       refine DL.not (i:=25) rfl (Wn.no c262 rfl rfl rfl rfl) rfl rfl ?_
       refine DL.not (i:=26) rfl (Wn.no c262 rfl rfl rfl rfl) rfl rfl ?_
       refine DL.pu 131 (.bool false) rfl (p_pick_f c262 rfl rfl rfl) ?_
       obtain rfl:=Option.some.inj h267
       exact DL.weak J261 (Sub.cons rfl (Sub.cons rfl (Sub.cons rfl (Sub.cons rfl (Sub.cons rfl (Sub.cons rfl (Sub.cons rfl (Sub.nil _))))))))
    ·
     by_cases c251 : q239 = true
     ·
      have h252:=ite_true c251 h248
      refine DL.pure (v:=.int .i64 t121_1) rfl (Wn.yes c251 rfl rfl rfl rfl) rfl rfl rfl (p_move rfl rfl) ?_
      obtain ⟨t253,h254,h255⟩:=bind_some h252
      refine DL.quiet (v:=.int .i64 t253) rfl (Wn.yes c251 rfl rfl rfl rfl) rfl rfl rfl (f_callR rfl rfl (args_val (vs:=[.int .i64 t121_1]) rfl) (fun w => enter16 _ w) (fun w hc => law13_num.val h254 (M:=M211) w (hE212.ext hc) )) ?_
      refine DL.pure (v:=.bool (t253 == 3)) rfl (Wn.yes c251 rfl rfl rfl rfl) rfl rfl rfl (p_eql rfl rfl rfl) ?_
      refine DL.pu 126 (.bool (t253 == 3)) rfl (p_pick_t c251 rfl rfl rfl) ?_
      obtain rfl:=Option.some.inj h255
      exact DL.weak J250 (Sub.cons rfl (Sub.cons rfl (Sub.cons rfl (Sub.cons rfl (Sub.cons rfl (Sub.cons rfl (Sub.cons rfl (Sub.cons rfl (Sub.nil _)))))))))
     ·
      replace c251:=Bool.eq_false_iff.mpr c251
      have h256:=ite_false c251 h248
      refine DL.not (i:=19) rfl (Wn.no c251 rfl rfl rfl rfl) rfl rfl ?_
      refine DL.not (i:=20) rfl (Wn.no c251 rfl rfl rfl rfl) rfl rfl ?_
      refine DL.not (i:=21) rfl (Wn.no c251 rfl rfl rfl rfl) rfl rfl ?_
      refine DL.pu 126 (.bool false) rfl (p_pick_f c251 rfl rfl rfl) ?_
      obtain rfl:=Option.some.inj h256
      exact DL.weak J250 (Sub.cons rfl (Sub.cons rfl (Sub.cons rfl (Sub.cons rfl (Sub.cons rfl (Sub.cons rfl (Sub.cons rfl (Sub.cons rfl (Sub.nil _)))))))))
   ·
    by_cases c243 : q228 = true
    ·
     have h244:=ite_true c243 h240
     refine DL.pure (v:=t109_0_v) rfl (Wn.yes c243 rfl rfl rfl rfl) rfl rfl rfl (p_move rfl rfl) ?_
     refine DL.pure (v:=.int .i64 (t109_0.length : Int)) rfl (Wn.yes c243 rfl rfl rfl rfl) rfl rfl rfl (p_slLen ty_u23 (RowV.sl (IntRow.mono hr_t109_0 (((((((((((((((((((((((hx116.trans hx120).trans hx124).trans hx129).trans hx134).trans hx138).trans hx142).trans hx146).trans hx150).trans hx154).trans hx158).trans hx162).trans hx166).trans hx170).trans hx174).trans hx178).trans hx182).trans hx186).trans hx190).trans hx194).trans hx198).trans hx203).trans hx207).trans hx211))) rfl rfl) ?_
     refine DL.pure (v:=.bool ((t109_0.length : Int) == 65000)) rfl (Wn.yes c243 rfl rfl rfl rfl) rfl rfl rfl (p_eql rfl rfl rfl) ?_
     refine DL.pu 121 (.bool ((t109_0.length : Int) == 65000)) rfl (p_pick_t c243 rfl rfl rfl) ?_
     obtain rfl:=Option.some.inj h244
     exact DL.weak J242 (Sub.cons rfl (Sub.cons rfl (Sub.cons rfl (Sub.cons rfl (Sub.cons rfl (Sub.cons rfl (Sub.cons rfl (Sub.cons rfl (Sub.cons rfl (Sub.nil _))))))))))
    ·
     replace c243:=Bool.eq_false_iff.mpr c243
     have h245:=ite_false c243 h240
     refine DL.not (i:=14) rfl (Wn.no c243 rfl rfl rfl rfl) rfl rfl ?_
     refine DL.not (i:=15) rfl (Wn.no c243 rfl rfl rfl rfl) rfl rfl ?_
     refine DL.not (i:=16) rfl (Wn.no c243 rfl rfl rfl rfl) rfl rfl ?_
     refine DL.pu 121 (.bool false) rfl (p_pick_f c243 rfl rfl rfl) ?_
     obtain rfl:=Option.some.inj h245
     exact DL.weak J242 (Sub.cons rfl (Sub.cons rfl (Sub.cons rfl (Sub.cons rfl (Sub.cons rfl (Sub.cons rfl (Sub.cons rfl (Sub.cons rfl (Sub.cons rfl (Sub.nil _))))))))))
  ·
   by_cases c232 : q217 = true
   ·
    have h233:=ite_true c232 h229
    refine DL.pure (v:=.int .i64 t109_1) rfl (Wn.yes c232 rfl rfl rfl rfl) rfl rfl rfl (p_move rfl rfl) ?_
    obtain ⟨t234,h235,h236⟩:=bind_some h233
    refine DL.quiet (v:=.int .i64 t234) rfl (Wn.yes c232 rfl rfl rfl rfl) rfl rfl rfl (f_callR rfl rfl (args_val (vs:=[.int .i64 t109_1]) rfl) (fun w => enter16 _ w) (fun w hc => law13_num.val h235 (M:=M211) w (hE212.ext hc) )) ?_
    refine DL.pure (v:=.bool (t234 == 0)) rfl (Wn.yes c232 rfl rfl rfl rfl) rfl rfl rfl (p_eql rfl rfl rfl) ?_
    refine DL.pu 116 (.bool (t234 == 0)) rfl (p_pick_t c232 rfl rfl rfl) ?_
    obtain rfl:=Option.some.inj h236
    exact DL.weak J231 (Sub.cons rfl (Sub.cons rfl (Sub.cons rfl (Sub.cons rfl (Sub.cons rfl (Sub.cons rfl (Sub.cons rfl (Sub.cons rfl (Sub.cons rfl (Sub.cons rfl (Sub.nil _)))))))))))
   ·
    replace c232:=Bool.eq_false_iff.mpr c232
    have h237:=ite_false c232 h229
    refine DL.not (i:=9) rfl (Wn.no c232 rfl rfl rfl rfl) rfl rfl ?_
    refine DL.not (i:=10) rfl (Wn.no c232 rfl rfl rfl rfl) rfl rfl ?_
    refine DL.not (i:=11) rfl (Wn.no c232 rfl rfl rfl rfl) rfl rfl ?_
    refine DL.pu 116 (.bool false) rfl (p_pick_f c232 rfl rfl rfl) ?_
    obtain rfl:=Option.some.inj h237
    exact DL.weak J231 (Sub.cons rfl (Sub.cons rfl (Sub.cons rfl (Sub.cons rfl (Sub.cons rfl (Sub.cons rfl (Sub.cons rfl (Sub.cons rfl (Sub.cons rfl (Sub.cons rfl (Sub.nil _)))))))))))
 ·
  by_cases c221 : (t213 == 0) = true
  ·
   have h222:=ite_true c221 h218
   refine DL.pure (v:=.int .i64 t97_1) rfl (Wn.yes c221 rfl rfl rfl rfl) rfl rfl rfl (p_move rfl rfl) ?_
   obtain ⟨t223,h224,h225⟩:=bind_some h222
   refine DL.quiet (v:=.int .i64 t223) rfl (Wn.yes c221 rfl rfl rfl rfl) rfl rfl rfl (f_callR rfl rfl (args_val (vs:=[.int .i64 t97_1]) rfl) (fun w => enter16 _ w) (fun w hc => law13_num.val h224 (M:=M211) w (hE212.ext hc) )) ?_
   refine DL.pure (v:=.bool (t223 == 2)) rfl (Wn.yes c221 rfl rfl rfl rfl) rfl rfl rfl (p_eql rfl rfl rfl) ?_
   refine DL.pu 111 (.bool (t223 == 2)) rfl (p_pick_t c221 rfl rfl rfl) ?_
   obtain rfl:=Option.some.inj h225
   exact DL.weak J220 (Sub.cons rfl (Sub.cons rfl (Sub.cons rfl (Sub.cons rfl (Sub.cons rfl (Sub.cons rfl (Sub.cons rfl (Sub.cons rfl (Sub.cons rfl (Sub.cons rfl (Sub.cons rfl (Sub.nil _))))))))))))
  ·
   replace c221:=Bool.eq_false_iff.mpr c221
   have h226:=ite_false c221 h218
   refine DL.not (i:=4) rfl (Wn.no c221 rfl rfl rfl rfl) rfl rfl ?_
   refine DL.not (i:=5) rfl (Wn.no c221 rfl rfl rfl rfl) rfl rfl ?_
   refine DL.not (i:=6) rfl (Wn.no c221 rfl rfl rfl rfl) rfl rfl ?_
   refine DL.pu 111 (.bool false) rfl (p_pick_f c221 rfl rfl rfl) ?_
   obtain rfl:=Option.some.inj h226
   exact DL.weak J220 (Sub.cons rfl (Sub.cons rfl (Sub.cons rfl (Sub.cons rfl (Sub.cons rfl (Sub.cons rfl (Sub.cons rfl (Sub.cons rfl (Sub.cons rfl (Sub.cons rfl (Sub.cons rfl (Sub.nil _))))))))))))
theorem law13_DerBounds.val {r : Bool} (h : law13_DerBounds.f = some r) {M : Mem} (w : World) (hM : Ext M (heapOf w)) (hG : Glob M) : Calls Tryd.prog 7 #[] w fun e w' => e = .returned (.bool r) ∧ Below w.heap.size w w' :=
 calls_value (law13_DerBounds.ok h w hM hG)

end Go.Proofs.YtjhknfpociahoaaDoor
