import Derived.Test.YtjhknfpociahoaaDoorDe3
namespace Go.Proofs.YtjhknfpociahoaaDoor
open Go Go.HW Go.RowKit
set_option linter.unusedVariables false
set_option linter.unusedSimpArgs false

/-! ### escutcheon/escutcheonref13.content: function 45 -/
noncomputable def B45 : Code:=bodyOf Tryd.f45
def ref13_content.L0 (r_ref13_Pack : Der → Option ((List Int))) (a0 : Der) : Nat → (List Int) → Int → Option (List Int)
 | 0,_,_ => none
 | k + 1,y_17,x5_18 => if (decide (x5_18 < ((Tree.kids a0).length : Int))) = true then (req (0 ≤ x5_18) (req (x5_18 < ((Tree.kids a0).length : Int)) (nm ((Tree.kids a0).getD x5_18.toNat Der.dflt) fun t96 => (r_ref13_Pack t96).bind fun t99 => req (y_17.length + t99.length ≤ 1099511627776) (ref13_content.L0 r_ref13_Pack a0 k (y_17 ++ t99) (IntKind.i64.wrap (x5_18 + 1)))))) else (some y_17)
set_option maxRecDepth 20000 in
theorem ref13_content.L0_ok {r_ref13_Pack : Der → Option ((List Int))} (hr_ref13_Pack : ref13_Pack.Rec r_ref13_Pack) (a0 : Der) (a0_3 : Value) (a0_5 : Value) (a0_6 : Value) (b1 : Nat) {R : Ending → World → Prop} {w0 : World} {M0 Mb : Mem} {K : List Item} (hr_a0_6 : RowS ShDer Mb a0_6 (Tree.kids a0)) :
  ∀ (k : Nat) (M I : Mem) (hE : Env w0 M0 M I) (hx : Ext Mb M) (y_17 : List Int) (x5_18 : Int) (y_17_v : Value) (y_17_c : Array Value) (r0_ : List Int) (ho_y_17 : IntOwn .u8 y_17_v y_17_c y_17) (h : ref13_content.L0 r_ref13_Pack a0 k y_17 x5_18 = some r0_) (hk : ∀ (M' I' : Mem),Env w0 M0 M' I' → Ext Mb M' → ∀ (z_oj7_88_v : Value),∀ (z_oj7_88_c : Array Value),IntOwn .u8 z_oj7_88_v z_oj7_88_c r0_ → TT Tryd.prog 45 R 79 w0 I' K [(3,z_oj7_88_v)] [(Value.ownBlock z_oj7_88_v,.cells z_oj7_88_c 5 (0,0)),(some b1,.cells ((Der.ce a0 a0_3 a0_5 a0_6)) 27 (0,0))]),
   TT Tryd.prog 45 R 79 w0 I (.code (sub [1,1,1,0,1,0,0] B45) :: .inLoop (sub [1,1,1,0,1,0,0] B45) :: .inBlock 3 :: K) [(1,ptr b1 0),(3,y_17_v),(5,.int .i64 x5_18)] [(Value.ownBlock y_17_v,.cells y_17_c 5 (0,0)),(some b1,.cells ((Der.ce a0 a0_3 a0_5 a0_6)) 27 (0,0))]:=by
 intro k
 induction k with
 | zero => intro M I hE hx y_17 x5_18 y_17_v y_17_c r0_ ho_y_17 h; simp [ref13_content.L0] at h
 | succ k ih =>
  intro M I hE hx y_17 x5_18 y_17_v y_17_c r0_ ho_y_17 h hk
  unfold ref13_content.L0 at h
  refine TT.seq (x:=sub [1,1,1,0,1,0,0,0] B45) (y:=sub [1,1,1,0,1,0,0,1] B45) ?_
  refine TT.seq (x:=sub [1,1,1,0,1,0,0,0,0] B45) (y:=sub [1,1,1,0,1,0,0,0,1] B45) ?_
  refine TT.rg [0,1,2,3,4] [kp,kp,kq,kp,kp] rfl rfl ?_
  refine DL.mv 63 (.int .i64 x5_18) rfl rfl rfl ?_
  refine DL.pu 64 (ptr b1 6) rfl (p_fieldAddr ty_f27_6 rfl rfl) ?_
  refine DL.qu 65 (a0_6) rfl (f_load (j:=1) ty_a25 rfl rfl rfl rfl) ?_
  refine DL.pu 66 (.int .i64 ((Tree.kids a0).length : Int)) rfl (p_slLen ty_u25 (RowS.sl (RowS.mono hr_a0_6 hx)) rfl rfl) ?_
  refine DL.pu 67 (.bool (decide (x5_18 < ((Tree.kids a0).length : Int)))) rfl (p_lss rfl rfl rfl) ?_
  refine DL.nil ?_
  by_cases c89 : (decide (x5_18 < ((Tree.kids a0).length : Int))) = true
  ·
   have h90:=ite_true c89 h
   refine TT.cond_true (x:=sub [1,1,1,0,1,0,0,0,1,0] B45) (y:=sub [1,1,1,0,1,0,0,0,1,1] B45) rfl c89 ?_
   refine TT.skip ?_
   refine TT.seq (x:=sub [1,1,1,0,1,0,0,1,0] B45) (y:=sub [1,1,1,0,1,0,0,1,1] B45) ?_
   refine TT.block (c:=sub [1,1,1,0,1,0,0,1,0,0] B45) ?_
   refine TT.rg [0,1,2,3,4,5,6,7,8] [kp,kp,kq,kp,kp,kq,kk,kx,kp] rfl rfl ?_
   refine DL.mv 70 (y_17_v) rfl rfl rfl ?_
   refine DL.pu 71 (ptr b1 6) rfl (p_fieldAddr ty_f27_6 rfl rfl) ?_
   refine DL.qu 72 (a0_6) rfl (f_load (j:=1) ty_a25 rfl rfl rfl rfl) ?_
   refine DL.mv 73 (.int .i64 x5_18) rfl rfl rfl ?_
   obtain ⟨g91,h92⟩:=req_some h90
   obtain ⟨g93,h94⟩:=req_some h92
   refine DL.pu 74 (elp a0_6 (x5_18.toNat * 7)) rfl (p_slIx ty_u25 ty_s27 (RowS.some (RowS.mono hr_a0_6 hx) g91 g93) g91 g93 rfl rfl rfl) ?_
   obtain ⟨t96,e97,h98⟩:=nm_some h94
   obtain ⟨cs95,hc95,hl95⟩:=id ((RowS.mono hr_a0_6 hx))
   have q95:=hl95 _ _ (getD_some Der.dflt (lt_len g91 g93)); rw [← e97] at q95
   obtain ⟨t96_3,t96_5,t96_6,hq95,hr_t96_3,hr_t96_5,hr_t96_6⟩:=Der.op q95
   refine DL.qu 75 (.agg (Der.ce t96 t96_3 t96_5 t96_6)) rfl (q_loadElA (fun w hc => hE.imm hc) hc95 hq95 (lt_len g91 g93) ty_a27 ty_s27 rfl rfl) ?_
   obtain ⟨t99,h100,h101⟩:=bind_some h98
   refine DL.callF (G:=Value) (u:=fun g => g) (Q:=fun g M_ => (IntRow M_ .u8 g t99)) (A:=[(Value.ownBlock y_17_v,.cells y_17_c 5 (0,0)),(some b1,.cells ((Der.ce a0 a0_3 a0_5 a0_6)) 27 (0,0))]) (J:=[]) (fun J102 => ((Value.ownBlock y_17_v,.cells y_17_c 5 (0,0)) :: (some b1,.cells ((Der.ce a0 a0_3 a0_5 a0_6)) 27 (0,0)) :: J102)) (Nat.le_refl _) hE.nil (List.append_nil _).symm (fun _ => rfl) (by simp) (i:=6) rfl (Wn.none rfl) rfl rfl rfl rfl rfl rfl (args_val (vs:=[.agg (Der.ce t96 t96_3 t96_5 t96_6)]) rfl) (fun w => enter32 _ w) (fun w hc hI => hr_ref13_Pack h100 (M:=M) w hI hr_t96_3 hr_t96_5 hr_t96_6) ?_
   rintro t99_v M102 J102 hE102 hx102 hr_t99
   show DL _ _ _ _ _ _ _ _ _ _ _ _ ((Value.ownBlock y_17_v,.cells y_17_c 5 (0,0)) :: (some b1,.cells ((Der.ce a0 a0_3 a0_5 a0_6)) 27 (0,0)) :: J102)
   obtain ⟨g103,h104⟩:=req_some h101
   refine DL.appendI (fun s105_v s105_c => ((Value.ownBlock s105_v,.cells s105_c 5 (0,0)) :: (some b1,.cells ((Der.ce a0 a0_3 a0_5 a0_6)) 27 (0,0)) :: J102)) elem23 (j:=0) rfl ho_y_17 g103 (by decide) (fun w hc => RowV.src (RowV.mono hr_t99 (hE102.extJ (A:=[(Value.ownBlock y_17_v,.cells y_17_c 5 (0,0)),(some b1,.cells ((Der.ce a0 a0_3 a0_5 a0_6)) 27 (0,0))]) hc rfl)) (encl_one _ _)) (i:=7) rfl (Wn.none rfl) rfl rfl rfl rfl rfl rfl (fun _ _ => rfl) ?_
   intro s105_v s105_c ho_s105
   show DL _ _ _ _ _ _ _ _ _ _ _ _ ((Value.ownBlock s105_v,.cells s105_c 5 (0,0)) :: (some b1,.cells ((Der.ce a0 a0_3 a0_5 a0_6)) 27 (0,0)) :: J102)
   refine DL.pu 3 (s105_v) rfl (p_assign rfl rfl) ?_
   refine DL.nil ?_
   refine TT.settle (A:=[(Value.ownBlock s105_v,.cells s105_c 5 (0,0)),(some b1,.cells ((Der.ce a0 a0_3 a0_5 a0_6)) 27 (0,0))]) (J:=J102) hE102 ?_
   intro I106 hE106 hxI106
   refine TT.inBlock ?_
   refine TT.rg [0,1,2] [kp,kp,kp] rfl rfl ?_
   refine DL.mv 68 (.int .i64 x5_18) rfl rfl rfl ?_
   refine DL.pu 69 (.int .i64 (IntKind.i64.wrap (x5_18 + 1))) rfl (p_add rfl rfl rfl) ?_
   refine DL.pu 5 (.int .i64 (IntKind.i64.wrap (x5_18 + 1))) rfl (p_assign rfl rfl) ?_
   refine DL.nil ?_
   refine TT.inLoop ?_
   exact TT.weak (ih M102 I106 hE106 (hx.trans hx102) (y_17 ++ t99) (IntKind.i64.wrap (x5_18 + 1)) s105_v s105_c r0_ ho_s105 h104 hk) (Sub.cons rfl (Sub.cons rfl (Sub.cons rfl (Sub.nil _))))
  ·
   replace c89:=Bool.eq_false_iff.mpr c89
   have h107:=ite_false c89 h
   refine TT.cond_false (x:=sub [1,1,1,0,1,0,0,0,1,0] B45) (y:=sub [1,1,1,0,1,0,0,0,1,1] B45) rfl c89 ?_
   refine TT.exit rfl ?_
   obtain rfl:=Option.some.inj h107
   exact TT.weak (hk M I hE hx y_17_v y_17_c ho_y_17) (Sub.cons rfl (Sub.nil _))

def ref13_content.L1 (r_ref13_Pack : Der → Option ((List Int))) (a0 : Der) : Nat → (List Int) → Int → Option (List Int)
 | 0,_,_ => none
 | k + 1,y_121,x5_122 => nm (decide (x5_122 < ((Tree.kids a0).length : Int))) fun t193 => if t193 = true then (req (0 ≤ x5_122) (req (x5_122 < ((Tree.kids a0).length : Int)) (nm ((Tree.kids a0).getD x5_122.toNat Der.dflt) fun t203 => (r_ref13_Pack t203).bind fun t206 => req (y_121.length + t206.length ≤ 1099511627776) (ref13_content.L1 r_ref13_Pack a0 k (y_121 ++ t206) (IntKind.i64.wrap (x5_122 + 1)))))) else (some y_121)
set_option maxRecDepth 20000 in
theorem ref13_content.L1_ok {r_ref13_Pack : Der → Option ((List Int))} (hr_ref13_Pack : ref13_Pack.Rec r_ref13_Pack) (a0 : Der) (a0_3 : Value) (a0_5 : Value) (a0_6 : Value) (b1 : Nat) {R : Ending → World → Prop} {w0 : World} {M0 Mb : Mem} {K : List Item} (hr_a0_6 : RowS ShDer Mb a0_6 (Tree.kids a0)) :
  ∀ (k : Nat) (M I : Mem) (hE : Env w0 M0 M I) (hx : Ext Mb M) (y_121 : List Int) (x5_122 : Int) (y_121_v : Value) (y_121_c : Array Value) (r0_ : List Int) (ho_y_121 : IntOwn .u8 y_121_v y_121_c y_121) (h : ref13_content.L1 r_ref13_Pack a0 k y_121 x5_122 = some r0_) (hk : ∀ (M' I' : Mem),Env w0 M0 M' I' → Ext Mb M' → ∀ (z_o120_192_v : Value),∀ (z_o120_192_c : Array Value),IntOwn .u8 z_o120_192_v z_o120_192_c r0_ → TT Tryd.prog 45 R 79 w0 I' K [(3,z_o120_192_v)] [(Value.ownBlock z_o120_192_v,.cells z_o120_192_c 5 (0,0)),(some b1,.cells ((Der.ce a0 a0_3 a0_5 a0_6)) 27 (0,0))]),
   TT Tryd.prog 45 R 79 w0 I (.code (sub [1,1,1,0,1,0,0] B45) :: .inLoop (sub [1,1,1,0,1,0,0] B45) :: .inBlock 3 :: K) [(1,ptr b1 0),(3,y_121_v),(5,.int .i64 x5_122)] [(Value.ownBlock y_121_v,.cells y_121_c 5 (0,0)),(some b1,.cells ((Der.ce a0 a0_3 a0_5 a0_6)) 27 (0,0))]:=by
 intro k
 induction k with
 | zero => intro M I hE hx y_121 x5_122 y_121_v y_121_c r0_ ho_y_121 h; simp [ref13_content.L1] at h
 | succ k ih =>
  intro M I hE hx y_121 x5_122 y_121_v y_121_c r0_ ho_y_121 h hk
  unfold ref13_content.L1 at h
  refine TT.seq (x:=sub [1,1,1,0,1,0,0,0] B45) (y:=sub [1,1,1,0,1,0,0,1] B45) ?_
  refine TT.seq (x:=sub [1,1,1,0,1,0,0,0,0] B45) (y:=sub [1,1,1,0,1,0,0,0,1] B45) ?_
  refine TT.rg [0,1,2,3,4] [kp,kp,kq,kp,kp] rfl rfl ?_
  refine DL.mv 63 (.int .i64 x5_122) rfl rfl rfl ?_
  refine DL.pu 64 (ptr b1 6) rfl (p_fieldAddr ty_f27_6 rfl rfl) ?_
  refine DL.qu 65 (a0_6) rfl (f_load (j:=1) ty_a25 rfl rfl rfl rfl) ?_
  refine DL.pu 66 (.int .i64 ((Tree.kids a0).length : Int)) rfl (p_slLen ty_u25 (RowS.sl (RowS.mono hr_a0_6 hx)) rfl rfl) ?_
  obtain ⟨t193,e194,h195⟩:=nm_some h
  refine DL.pu 67 (.bool t193) rfl (by rw [e194]; exact p_lss rfl rfl rfl) ?_
  refine DL.nil ?_
  by_cases c196 : t193 = true
  ·
   have h197:=ite_true c196 h195
   refine TT.cond_true (x:=sub [1,1,1,0,1,0,0,0,1,0] B45) (y:=sub [1,1,1,0,1,0,0,0,1,1] B45) rfl c196 ?_
   refine TT.skip ?_
   refine TT.seq (x:=sub [1,1,1,0,1,0,0,1,0] B45) (y:=sub [1,1,1,0,1,0,0,1,1] B45) ?_
   refine TT.block (c:=sub [1,1,1,0,1,0,0,1,0,0] B45) ?_
   refine TT.rg [0,1,2,3,4,5,6,7,8] [kp,kp,kq,kp,kp,kq,kk,kx,kp] rfl rfl ?_
   refine DL.mv 70 (y_121_v) rfl rfl rfl ?_
   refine DL.pu 71 (ptr b1 6) rfl (p_fieldAddr ty_f27_6 rfl rfl) ?_
   refine DL.qu 72 (a0_6) rfl (f_load (j:=1) ty_a25 rfl rfl rfl rfl) ?_
   refine DL.mv 73 (.int .i64 x5_122) rfl rfl rfl ?_
   obtain ⟨g198,h199⟩:=req_some h197
   obtain ⟨g200,h201⟩:=req_some h199
   refine DL.pu 74 (elp a0_6 (x5_122.toNat * 7)) rfl (p_slIx ty_u25 ty_s27 (RowS.some (RowS.mono hr_a0_6 hx) g198 g200) g198 g200 rfl rfl rfl) ?_
   obtain ⟨t203,e204,h205⟩:=nm_some h201
   obtain ⟨cs202,hc202,hl202⟩:=id ((RowS.mono hr_a0_6 hx))
   have q202:=hl202 _ _ (getD_some Der.dflt (lt_len g198 g200)); rw [← e204] at q202
   obtain ⟨t203_3,t203_5,t203_6,hq202,hr_t203_3,hr_t203_5,hr_t203_6⟩:=Der.op q202
   refine DL.qu 75 (.agg (Der.ce t203 t203_3 t203_5 t203_6)) rfl (q_loadElA (fun w hc => hE.imm hc) hc202 hq202 (lt_len g198 g200) ty_a27 ty_s27 rfl rfl) ?_
   obtain ⟨t206,h207,h208⟩:=bind_some h205
   refine DL.callF (G:=Value) (u:=fun g => g) (Q:=fun g M_ => (IntRow M_ .u8 g t206)) (A:=[(Value.ownBlock y_121_v,.cells y_121_c 5 (0,0)),(some b1,.cells ((Der.ce a0 a0_3 a0_5 a0_6)) 27 (0,0))]) (J:=[]) (fun J209 => ((Value.ownBlock y_121_v,.cells y_121_c 5 (0,0)) :: (some b1,.cells ((Der.ce a0 a0_3 a0_5 a0_6)) 27 (0,0)) :: J209)) (Nat.le_refl _) hE.nil (List.append_nil _).symm (fun _ => rfl) (by simp) (i:=6) rfl (Wn.none rfl) rfl rfl rfl rfl rfl rfl (args_val (vs:=[.agg (Der.ce t203 t203_3 t203_5 t203_6)]) rfl) (fun w => enter32 _ w) (fun w hc hI => hr_ref13_Pack h207 (M:=M) w hI hr_t203_3 hr_t203_5 hr_t203_6) ?_
   rintro t206_v M209 J209 hE209 hx209 hr_t206
   show DL _ _ _ _ _ _ _ _ _ _ _ _ ((Value.ownBlock y_121_v,.cells y_121_c 5 (0,0)) :: (some b1,.cells ((Der.ce a0 a0_3 a0_5 a0_6)) 27 (0,0)) :: J209)
   obtain ⟨g210,h211⟩:=req_some h208
   refine DL.appendI (fun s212_v s212_c => ((Value.ownBlock s212_v,.cells s212_c 5 (0,0)) :: (some b1,.cells ((Der.ce a0 a0_3 a0_5 a0_6)) 27 (0,0)) :: J209)) elem23 (j:=0) rfl ho_y_121 g210 (by decide) (fun w hc => RowV.src (RowV.mono hr_t206 (hE209.extJ (A:=[(Value.ownBlock y_121_v,.cells y_121_c 5 (0,0)),(some b1,.cells ((Der.ce a0 a0_3 a0_5 a0_6)) 27 (0,0))]) hc rfl)) (encl_one _ _)) (i:=7) rfl (Wn.none rfl) rfl rfl rfl rfl rfl rfl (fun _ _ => rfl) ?_
   intro s212_v s212_c ho_s212
   show DL _ _ _ _ _ _ _ _ _ _ _ _ ((Value.ownBlock s212_v,.cells s212_c 5 (0,0)) :: (some b1,.cells ((Der.ce a0 a0_3 a0_5 a0_6)) 27 (0,0)) :: J209)
   refine DL.pu 3 (s212_v) rfl (p_assign rfl rfl) ?_
   refine DL.nil ?_
   refine TT.settle (A:=[(Value.ownBlock s212_v,.cells s212_c 5 (0,0)),(some b1,.cells ((Der.ce a0 a0_3 a0_5 a0_6)) 27 (0,0))]) (J:=J209) hE209 ?_
   intro I213 hE213 hxI213
   refine TT.inBlock ?_
   refine TT.rg [0,1,2] [kp,kp,kp] rfl rfl ?_
   refine DL.mv 68 (.int .i64 x5_122) rfl rfl rfl ?_
   refine DL.pu 69 (.int .i64 (IntKind.i64.wrap (x5_122 + 1))) rfl (p_add rfl rfl rfl) ?_
   refine DL.pu 5 (.int .i64 (IntKind.i64.wrap (x5_122 + 1))) rfl (p_assign rfl rfl) ?_
   refine DL.nil ?_
   refine TT.inLoop ?_
   exact TT.weak (ih M209 I213 hE213 (hx.trans hx209) (y_121 ++ t206) (IntKind.i64.wrap (x5_122 + 1)) s212_v s212_c r0_ ho_s212 h211 hk) (Sub.cons rfl (Sub.cons rfl (Sub.cons rfl (Sub.nil _))))
  ·
   replace c196:=Bool.eq_false_iff.mpr c196
   have h214:=ite_false c196 h195
   refine TT.cond_false (x:=sub [1,1,1,0,1,0,0,0,1,0] B45) (y:=sub [1,1,1,0,1,0,0,0,1,1] B45) rfl c196 ?_
   refine TT.exit rfl ?_
   obtain rfl:=Option.some.inj h214
   exact TT.weak (hk M I hE hx y_121_v y_121_c ho_y_121) (Sub.cons rfl (Sub.nil _))

def ref13_content.L2 (r_ref13_Pack : Der → Option ((List Int))) (a0 : Der) : Nat → (List Int) → Int → Option (List Int)
 | 0,_,_ => none
 | k + 1,y_227,x5_228 => nm (decide (x5_228 < ((Tree.kids a0).length : Int))) fun t299 => if t299 = true then (req (0 ≤ x5_228) (req (x5_228 < ((Tree.kids a0).length : Int)) (nm ((Tree.kids a0).getD x5_228.toNat Der.dflt) fun t309 => (r_ref13_Pack t309).bind fun t312 => req (y_227.length + t312.length ≤ 1099511627776) (ref13_content.L2 r_ref13_Pack a0 k (y_227 ++ t312) (IntKind.i64.wrap (x5_228 + 1)))))) else (some y_227)
set_option maxRecDepth 20000 in
theorem ref13_content.L2_ok {r_ref13_Pack : Der → Option ((List Int))} (hr_ref13_Pack : ref13_Pack.Rec r_ref13_Pack) (a0 : Der) (a0_3 : Value) (a0_5 : Value) (a0_6 : Value) (b1 : Nat) {R : Ending → World → Prop} {w0 : World} {M0 Mb : Mem} {K : List Item} (hr_a0_6 : RowS ShDer Mb a0_6 (Tree.kids a0)) :
  ∀ (k : Nat) (M I : Mem) (hE : Env w0 M0 M I) (hx : Ext Mb M) (y_227 : List Int) (x5_228 : Int) (y_227_v : Value) (y_227_c : Array Value) (r0_ : List Int) (ho_y_227 : IntOwn .u8 y_227_v y_227_c y_227) (h : ref13_content.L2 r_ref13_Pack a0 k y_227 x5_228 = some r0_) (hk : ∀ (M' I' : Mem),Env w0 M0 M' I' → Ext Mb M' → ∀ (z_o222_298_v : Value),∀ (z_o222_298_c : Array Value),IntOwn .u8 z_o222_298_v z_o222_298_c r0_ → TT Tryd.prog 45 R 79 w0 I' K [(3,z_o222_298_v)] [(Value.ownBlock z_o222_298_v,.cells z_o222_298_c 5 (0,0)),(some b1,.cells ((Der.ce a0 a0_3 a0_5 a0_6)) 27 (0,0))]),
   TT Tryd.prog 45 R 79 w0 I (.code (sub [1,1,1,0,1,0,0] B45) :: .inLoop (sub [1,1,1,0,1,0,0] B45) :: .inBlock 3 :: K) [(1,ptr b1 0),(3,y_227_v),(5,.int .i64 x5_228)] [(Value.ownBlock y_227_v,.cells y_227_c 5 (0,0)),(some b1,.cells ((Der.ce a0 a0_3 a0_5 a0_6)) 27 (0,0))]:=by
 intro k
 induction k with
 | zero => intro M I hE hx y_227 x5_228 y_227_v y_227_c r0_ ho_y_227 h; simp [ref13_content.L2] at h
 | succ k ih =>
  intro M I hE hx y_227 x5_228 y_227_v y_227_c r0_ ho_y_227 h hk
  unfold ref13_content.L2 at h
  refine TT.seq (x:=sub [1,1,1,0,1,0,0,0] B45) (y:=sub [1,1,1,0,1,0,0,1] B45) ?_
  refine TT.seq (x:=sub [1,1,1,0,1,0,0,0,0] B45) (y:=sub [1,1,1,0,1,0,0,0,1] B45) ?_
  refine TT.rg [0,1,2,3,4] [kp,kp,kq,kp,kp] rfl rfl ?_
  refine DL.mv 63 (.int .i64 x5_228) rfl rfl rfl ?_
  refine DL.pu 64 (ptr b1 6) rfl (p_fieldAddr ty_f27_6 rfl rfl) ?_
  refine DL.qu 65 (a0_6) rfl (f_load (j:=1) ty_a25 rfl rfl rfl rfl) ?_
  refine DL.pu 66 (.int .i64 ((Tree.kids a0).length : Int)) rfl (p_slLen ty_u25 (RowS.sl (RowS.mono hr_a0_6 hx)) rfl rfl) ?_
  obtain ⟨t299,e300,h301⟩:=nm_some h
  refine DL.pu 67 (.bool t299) rfl (by rw [e300]; exact p_lss rfl rfl rfl) ?_
  refine DL.nil ?_
  by_cases c302 : t299 = true
  ·
   have h303:=ite_true c302 h301
   refine TT.cond_true (x:=sub [1,1,1,0,1,0,0,0,1,0] B45) (y:=sub [1,1,1,0,1,0,0,0,1,1] B45) rfl c302 ?_
   refine TT.skip ?_
   refine TT.seq (x:=sub [1,1,1,0,1,0,0,1,0] B45) (y:=sub [1,1,1,0,1,0,0,1,1] B45) ?_
   refine TT.block (c:=sub [1,1,1,0,1,0,0,1,0,0] B45) ?_
   refine TT.rg [0,1,2,3,4,5,6,7,8] [kp,kp,kq,kp,kp,kq,kk,kx,kp] rfl rfl ?_
   refine DL.mv 70 (y_227_v) rfl rfl rfl ?_
   refine DL.pu 71 (ptr b1 6) rfl (p_fieldAddr ty_f27_6 rfl rfl) ?_
   refine DL.qu 72 (a0_6) rfl (f_load (j:=1) ty_a25 rfl rfl rfl rfl) ?_
   refine DL.mv 73 (.int .i64 x5_228) rfl rfl rfl ?_
   obtain ⟨g304,h305⟩:=req_some h303
   obtain ⟨g306,h307⟩:=req_some h305
   refine DL.pu 74 (elp a0_6 (x5_228.toNat * 7)) rfl (p_slIx ty_u25 ty_s27 (RowS.some (RowS.mono hr_a0_6 hx) g304 g306) g304 g306 rfl rfl rfl) ?_
   obtain ⟨t309,e310,h311⟩:=nm_some h307
   obtain ⟨cs308,hc308,hl308⟩:=id ((RowS.mono hr_a0_6 hx))
   have q308:=hl308 _ _ (getD_some Der.dflt (lt_len g304 g306)); rw [← e310] at q308
   obtain ⟨t309_3,t309_5,t309_6,hq308,hr_t309_3,hr_t309_5,hr_t309_6⟩:=Der.op q308
   refine DL.qu 75 (.agg (Der.ce t309 t309_3 t309_5 t309_6)) rfl (q_loadElA (fun w hc => hE.imm hc) hc308 hq308 (lt_len g304 g306) ty_a27 ty_s27 rfl rfl) ?_
   obtain ⟨t312,h313,h314⟩:=bind_some h311
   refine DL.callF (G:=Value) (u:=fun g => g) (Q:=fun g M_ => (IntRow M_ .u8 g t312)) (A:=[(Value.ownBlock y_227_v,.cells y_227_c 5 (0,0)),(some b1,.cells ((Der.ce a0 a0_3 a0_5 a0_6)) 27 (0,0))]) (J:=[]) (fun J315 => ((Value.ownBlock y_227_v,.cells y_227_c 5 (0,0)) :: (some b1,.cells ((Der.ce a0 a0_3 a0_5 a0_6)) 27 (0,0)) :: J315)) (Nat.le_refl _) hE.nil (List.append_nil _).symm (fun _ => rfl) (by simp) (i:=6) rfl (Wn.none rfl) rfl rfl rfl rfl rfl rfl (args_val (vs:=[.agg (Der.ce t309 t309_3 t309_5 t309_6)]) rfl) (fun w => enter32 _ w) (fun w hc hI => hr_ref13_Pack h313 (M:=M) w hI hr_t309_3 hr_t309_5 hr_t309_6) ?_
   rintro t312_v M315 J315 hE315 hx315 hr_t312
   show DL _ _ _ _ _ _ _ _ _ _ _ _ ((Value.ownBlock y_227_v,.cells y_227_c 5 (0,0)) :: (some b1,.cells ((Der.ce a0 a0_3 a0_5 a0_6)) 27 (0,0)) :: J315)
   obtain ⟨g316,h317⟩:=req_some h314
   refine DL.appendI (fun s318_v s318_c => ((Value.ownBlock s318_v,.cells s318_c 5 (0,0)) :: (some b1,.cells ((Der.ce a0 a0_3 a0_5 a0_6)) 27 (0,0)) :: J315)) elem23 (j:=0) rfl ho_y_227 g316 (by decide) (fun w hc => RowV.src (RowV.mono hr_t312 (hE315.extJ (A:=[(Value.ownBlock y_227_v,.cells y_227_c 5 (0,0)),(some b1,.cells ((Der.ce a0 a0_3 a0_5 a0_6)) 27 (0,0))]) hc rfl)) (encl_one _ _)) (i:=7) rfl (Wn.none rfl) rfl rfl rfl rfl rfl rfl (fun _ _ => rfl) ?_
   intro s318_v s318_c ho_s318
   show DL _ _ _ _ _ _ _ _ _ _ _ _ ((Value.ownBlock s318_v,.cells s318_c 5 (0,0)) :: (some b1,.cells ((Der.ce a0 a0_3 a0_5 a0_6)) 27 (0,0)) :: J315)
   refine DL.pu 3 (s318_v) rfl (p_assign rfl rfl) ?_
   refine DL.nil ?_
   refine TT.settle (A:=[(Value.ownBlock s318_v,.cells s318_c 5 (0,0)),(some b1,.cells ((Der.ce a0 a0_3 a0_5 a0_6)) 27 (0,0))]) (J:=J315) hE315 ?_
   intro I319 hE319 hxI319
   refine TT.inBlock ?_
   refine TT.rg [0,1,2] [kp,kp,kp] rfl rfl ?_
   refine DL.mv 68 (.int .i64 x5_228) rfl rfl rfl ?_
   refine DL.pu 69 (.int .i64 (IntKind.i64.wrap (x5_228 + 1))) rfl (p_add rfl rfl rfl) ?_
   refine DL.pu 5 (.int .i64 (IntKind.i64.wrap (x5_228 + 1))) rfl (p_assign rfl rfl) ?_
   refine DL.nil ?_
   refine TT.inLoop ?_
   exact TT.weak (ih M315 I319 hE319 (hx.trans hx315) (y_227 ++ t312) (IntKind.i64.wrap (x5_228 + 1)) s318_v s318_c r0_ ho_s318 h317 hk) (Sub.cons rfl (Sub.cons rfl (Sub.cons rfl (Sub.nil _))))
  ·
   replace c302:=Bool.eq_false_iff.mpr c302
   have h320:=ite_false c302 h301
   refine TT.cond_false (x:=sub [1,1,1,0,1,0,0,0,1,0] B45) (y:=sub [1,1,1,0,1,0,0,0,1,1] B45) rfl c302 ?_
   refine TT.exit rfl ?_
   obtain rfl:=Option.some.inj h320
   exact TT.weak (hk M I hE hx y_227_v y_227_c ho_y_227) (Sub.cons rfl (Sub.nil _))

def ref13_content.L3 (r_ref13_Pack : Der → Option ((List Int))) (a0 : Der) : Nat → Option (Unit)
 | 0 => none
 | k + 1 => if (decide (0 < ((Tree.kids a0).length : Int))) = true then (req ((0 : Int) < ((Tree.kids a0).length : Int)) (nm ((Tree.kids a0).getD ((0 : Int).toNat) Der.dflt) fun t398 => (r_ref13_Pack t398).bind fun t401 => req (False) (none))) else (some ())
set_option maxRecDepth 20000 in
theorem ref13_content.L3_ok {r_ref13_Pack : Der → Option ((List Int))} (hr_ref13_Pack : ref13_Pack.Rec r_ref13_Pack) (a0 : Der) (a0_3 : Value) (a0_5 : Value) (a0_6 : Value) (b1 : Nat) {R : Ending → World → Prop} {w0 : World} {M0 M I : Mem} {K : List Item} (hE : Env w0 M0 M I) (hr_a0_6 : RowS ShDer M a0_6 (Tree.kids a0)) :
  ∀ (k : Nat) (h : ref13_content.L3 r_ref13_Pack a0 k  = some ()) (hk : TT Tryd.prog 45 R 79 w0 I K [(3,a0_3)] [(some b1,.cells ((Der.ce a0 a0_3 a0_5 a0_6)) 27 (0,0))]),
   TT Tryd.prog 45 R 79 w0 I (.code (sub [1,1,1,0,1,0,0] B45) :: .inLoop (sub [1,1,1,0,1,0,0] B45) :: .inBlock 3 :: K) [(1,ptr b1 0),(3,a0_3),(5,.int .i64 0)] [(some b1,.cells ((Der.ce a0 a0_3 a0_5 a0_6)) 27 (0,0))]:=by
 intro k
 induction k with
 | zero => intro  h; simp [ref13_content.L3] at h
 | succ k ih =>
  intro  h hk
  unfold ref13_content.L3 at h
  refine TT.seq (x:=sub [1,1,1,0,1,0,0,0] B45) (y:=sub [1,1,1,0,1,0,0,1] B45) ?_
  refine TT.seq (x:=sub [1,1,1,0,1,0,0,0,0] B45) (y:=sub [1,1,1,0,1,0,0,0,1] B45) ?_
  refine TT.rg [0,1,2,3,4] [kp,kp,kq,kp,kp] rfl rfl ?_
  refine DL.mv 63 (.int .i64 0) rfl rfl rfl ?_
  refine DL.pu 64 (ptr b1 6) rfl (p_fieldAddr ty_f27_6 rfl rfl) ?_
  refine DL.qu 65 (a0_6) rfl (f_load (j:=0) ty_a25 rfl rfl rfl rfl) ?_
  refine DL.pu 66 (.int .i64 ((Tree.kids a0).length : Int)) rfl (p_slLen ty_u25 (RowS.sl hr_a0_6) rfl rfl) ?_
  refine DL.pu 67 (.bool (decide (0 < ((Tree.kids a0).length : Int)))) rfl (p_lss rfl rfl rfl) ?_
  refine DL.nil ?_
  by_cases c393 : (decide (0 < ((Tree.kids a0).length : Int))) = true
  ·
   have h394:=ite_true c393 h
   refine TT.cond_true (x:=sub [1,1,1,0,1,0,0,0,1,0] B45) (y:=sub [1,1,1,0,1,0,0,0,1,1] B45) rfl c393 ?_
   refine TT.skip ?_
   refine TT.seq (x:=sub [1,1,1,0,1,0,0,1,0] B45) (y:=sub [1,1,1,0,1,0,0,1,1] B45) ?_
   refine TT.block (c:=sub [1,1,1,0,1,0,0,1,0,0] B45) ?_
   refine TT.rg [0,1,2,3,4,5,6,7,8] [kp,kp,kq,kp,kp,kq,kk,kx,kp] rfl rfl ?_
   refine DL.mv 70 (a0_3) rfl rfl rfl ?_
   refine DL.pu 71 (ptr b1 6) rfl (p_fieldAddr ty_f27_6 rfl rfl) ?_
   refine DL.qu 72 (a0_6) rfl (f_load (j:=0) ty_a25 rfl rfl rfl rfl) ?_
   refine DL.mv 73 (.int .i64 0) rfl rfl rfl ?_
   obtain ⟨g395,h396⟩:=req_some h394
   refine DL.pu 74 (elp a0_6 (((0 : Int).toNat) * 7)) rfl (p_slIx ty_u25 ty_s27 (RowS.some hr_a0_6 (by decide) g395) (by decide) g395 rfl rfl rfl) ?_
   obtain ⟨t398,e399,h400⟩:=nm_some h396
   obtain ⟨cs397,hc397,hl397⟩:=id (hr_a0_6)
   have q397:=hl397 _ _ (getD_some Der.dflt (lt_len (by decide) g395)); rw [← e399] at q397
   obtain ⟨t398_3,t398_5,t398_6,hq397,hr_t398_3,hr_t398_5,hr_t398_6⟩:=Der.op q397
   refine DL.qu 75 (.agg (Der.ce t398 t398_3 t398_5 t398_6)) rfl (q_loadElA (fun w hc => hE.imm hc) hc397 hq397 (lt_len (by decide) g395) ty_a27 ty_s27 rfl rfl) ?_
   obtain ⟨t401,h402,h403⟩:=bind_some h400
   refine DL.callF (G:=Value) (u:=fun g => g) (Q:=fun g M_ => (IntRow M_ .u8 g t401)) (A:=[(some b1,.cells ((Der.ce a0 a0_3 a0_5 a0_6)) 27 (0,0))]) (J:=[]) (fun J404 => ((some b1,.cells ((Der.ce a0 a0_3 a0_5 a0_6)) 27 (0,0)) :: J404)) (Nat.le_refl _) hE.nil (List.append_nil _).symm (fun _ => rfl) (by simp) (i:=6) rfl (Wn.none rfl) rfl rfl rfl rfl rfl rfl (args_val (vs:=[.agg (Der.ce t398 t398_3 t398_5 t398_6)]) rfl) (fun w => enter32 _ w) (fun w hc hI => hr_ref13_Pack h402 (M:=M) w hI hr_t398_3 hr_t398_5 hr_t398_6) ?_
   rintro t401_v M404 J404 hE404 hx404 hr_t401
   show DL _ _ _ _ _ _ _ _ _ _ _ _ ((some b1,.cells ((Der.ce a0 a0_3 a0_5 a0_6)) 27 (0,0)) :: J404)
   obtain ⟨g405,h406⟩:=req_some h403
   exact g405.elim
  ·
   replace c393:=Bool.eq_false_iff.mpr c393
   have h407:=ite_false c393 h
   refine TT.cond_false (x:=sub [1,1,1,0,1,0,0,0,1,0] B45) (y:=sub [1,1,1,0,1,0,0,0,1,1] B45) rfl c393 ?_
   refine TT.exit rfl ?_
   exact TT.weak (hk) (Sub.cons rfl (Sub.nil _))

def ref13_content.L4 (a0 : Der) : Nat → (List Int) → Int → Option (List Int)
 | 0,_,_ => none
 | k + 1,y_431,x4_432 => if (decide (x4_432 < ((Der.arcs a0).length : Int))) = true then (req (0 ≤ x4_432) (req (x4_432 < ((Der.arcs a0).length : Int)) ((ref13_groups.f ((Der.arcs a0).getD x4_432.toNat 0)).bind fun t506 => req (t506.length ≤ 1099511627776) (req (y_431.length + t506.length ≤ 1099511627776) (ref13_content.L4 a0 k (y_431 ++ t506) (IntKind.i64.wrap (x4_432 + 1))))))) else (some y_431)
set_option maxRecDepth 20000 in
theorem ref13_content.L4_ok (a0 : Der) (a0_3 : Value) (a0_5 : Value) (a0_6 : Value) (b1 : Nat) {R : Ending → World → Prop} {w0 : World} {M0 M I : Mem} {K : List Item} (hE : Env w0 M0 M I) (hr_a0_5 : IntRow M .u64 a0_5 (Der.arcs a0)) :
  ∀ (k : Nat) (y_431 : List Int) (x4_432 : Int) (y_431_v : Value) (y_431_c : Array Value) (r0_ : List Int) (ho_y_431 : IntOwn .u8 y_431_v y_431_c y_431) (h : ref13_content.L4 a0 k y_431 x4_432 = some r0_) (hk : ∀ (z_o430_499_v : Value),∀ (z_o430_499_c : Array Value),IntOwn .u8 z_o430_499_v z_o430_499_c r0_ → TT Tryd.prog 45 R 79 w0 I K [(1,ptr b1 0),(3,z_o430_499_v)] [(Value.ownBlock z_o430_499_v,.cells z_o430_499_c 5 (0,0)),(some b1,.cells ((Der.ce a0 a0_3 a0_5 a0_6)) 27 (0,0))]),
   TT Tryd.prog 45 R 79 w0 I (.code (sub [1,1,0,1,0,1,1,1,1,1,1,1,1,1,0,1,1,0,0] B45) :: .inLoop (sub [1,1,0,1,0,1,1,1,1,1,1,1,1,1,0,1,1,0,0] B45) :: .inBlock 1 :: K) [(1,ptr b1 0),(3,y_431_v),(4,.int .i64 x4_432)] [(Value.ownBlock y_431_v,.cells y_431_c 5 (0,0)),(some b1,.cells ((Der.ce a0 a0_3 a0_5 a0_6)) 27 (0,0))]:=by
 intro k
 induction k with
 | zero => intro y_431 x4_432 y_431_v y_431_c r0_ ho_y_431 h; simp [ref13_content.L4] at h
 | succ k ih =>
  intro y_431 x4_432 y_431_v y_431_c r0_ ho_y_431 h hk
  unfold ref13_content.L4 at h
  refine TT.seq (x:=sub [1,1,0,1,0,1,1,1,1,1,1,1,1,1,0,1,1,0,0,0] B45) (y:=sub [1,1,0,1,0,1,1,1,1,1,1,1,1,1,0,1,1,0,0,1] B45) ?_
  refine TT.seq (x:=sub [1,1,0,1,0,1,1,1,1,1,1,1,1,1,0,1,1,0,0,0,0] B45) (y:=sub [1,1,0,1,0,1,1,1,1,1,1,1,1,1,0,1,1,0,0,0,1] B45) ?_
  refine TT.rg [0,1,2,3,4] [kp,kp,kq,kp,kp] rfl rfl ?_
  refine DL.mv 42 (.int .i64 x4_432) rfl rfl rfl ?_
  refine DL.pu 43 (ptr b1 5) rfl (p_fieldAddr ty_f27_5 rfl rfl) ?_
  refine DL.qu 44 (a0_5) rfl (f_load (j:=1) ty_a24 rfl rfl rfl rfl) ?_
  refine DL.pu 45 (.int .i64 ((Der.arcs a0).length : Int)) rfl (p_slLen ty_u24 (RowV.sl hr_a0_5) rfl rfl) ?_
  refine DL.pu 46 (.bool (decide (x4_432 < ((Der.arcs a0).length : Int)))) rfl (p_lss rfl rfl rfl) ?_
  refine DL.nil ?_
  by_cases c500 : (decide (x4_432 < ((Der.arcs a0).length : Int))) = true
  ·
   have h501:=ite_true c500 h
   refine TT.cond_true (x:=sub [1,1,0,1,0,1,1,1,1,1,1,1,1,1,0,1,1,0,0,0,1,0] B45) (y:=sub [1,1,0,1,0,1,1,1,1,1,1,1,1,1,0,1,1,0,0,0,1,1] B45) rfl c500 ?_
   refine TT.skip ?_
   refine TT.seq (x:=sub [1,1,0,1,0,1,1,1,1,1,1,1,1,1,0,1,1,0,0,1,0] B45) (y:=sub [1,1,0,1,0,1,1,1,1,1,1,1,1,1,0,1,1,0,0,1,1] B45) ?_
   refine TT.block (c:=sub [1,1,0,1,0,1,1,1,1,1,1,1,1,1,0,1,1,0,0,1,0,0] B45) ?_
   refine TT.rg [0,1,2,3,4,5,6,7,8] [kp,kp,kq,kp,kp,kq,kx,kx,kp] rfl rfl ?_
   refine DL.mv 49 (y_431_v) rfl rfl rfl ?_
   refine DL.pu 50 (ptr b1 5) rfl (p_fieldAddr ty_f27_5 rfl rfl) ?_
   refine DL.qu 51 (a0_5) rfl (f_load (j:=1) ty_a24 rfl rfl rfl rfl) ?_
   refine DL.mv 52 (.int .i64 x4_432) rfl rfl rfl ?_
   obtain ⟨g502,h503⟩:=req_some h501
   obtain ⟨g504,h505⟩:=req_some h503
   refine DL.pu 53 (elp a0_5 x4_432.toNat) rfl (p_slIx1 ty_u24 ty_s50 (RowV.some hr_a0_5 g502 g504) g502 g504 rfl rfl rfl) ?_
   refine DL.qu 54 (.int .u64 ((Der.arcs a0).getD x4_432.toNat 0)) rfl (q_loadEl (fun w hc => hE.imm hc) hr_a0_5 (encl_get .u64 (lt_len g502 g504)) ty_a50 rfl rfl) ?_
   obtain ⟨t506,h507,h508⟩:=bind_some h505
   obtain ⟨g509,h510⟩:=req_some h508
   refine DL.ownx (zs:=t506) (H':=fun t506_v t506_c => [(Value.ownBlock t506_v,.cells t506_c 5 (0,0)),(Value.ownBlock y_431_v,.cells y_431_c 5 (0,0)),(some b1,.cells ((Der.ce a0 a0_3 a0_5 a0_6)) 27 (0,0))]) (i:=6) rfl (Wn.none rfl) rfl rfl rfl (f_callOwn rfl rfl (args_val (vs:=[.int .u64 ((Der.arcs a0).getD x4_432.toNat 0)]) rfl) (fun w => enter62 _ w) (fun w hc => ref13_groups.ok h507 (M:=M) w (hE.ext hc) )) (fun _ => rfl) ?_
   intro t506_v t506_c ho_t506
   show DL _ _ _ _ _ _ _ _ _ _ _ _ [(Value.ownBlock t506_v,.cells t506_c 5 (0,0)),(Value.ownBlock y_431_v,.cells y_431_c 5 (0,0)),(some b1,.cells ((Der.ce a0 a0_3 a0_5 a0_6)) 27 (0,0))]
   obtain ⟨g512,h513⟩:=req_some h510
   refine DL.appendI (fun s514_v s514_c => [(Value.ownBlock t506_v,.cells t506_c 5 (0,0)),(Value.ownBlock s514_v,.cells s514_c 5 (0,0)),(some b1,.cells ((Der.ce a0 a0_3 a0_5 a0_6)) 27 (0,0))]) elem23 (j:=1) rfl ho_y_431 g512 (by decide) (fun w hc => IntOwn.src (i:=0) ho_t506 hc rfl) (i:=7) rfl (Wn.none rfl) rfl rfl rfl rfl rfl rfl (fun _ _ => rfl) ?_
   intro s514_v s514_c ho_s514
   show DL _ _ _ _ _ _ _ _ _ _ _ _ [(Value.ownBlock t506_v,.cells t506_c 5 (0,0)),(Value.ownBlock s514_v,.cells s514_c 5 (0,0)),(some b1,.cells ((Der.ce a0 a0_3 a0_5 a0_6)) 27 (0,0))]
   refine DL.pu 3 (s514_v) rfl (p_assign rfl rfl) ?_
   refine DL.nil ?_
   refine TT.inBlock ?_
   refine TT.rg [0,1,2] [kp,kp,kp] rfl rfl ?_
   refine DL.mv 47 (.int .i64 x4_432) rfl rfl rfl ?_
   refine DL.pu 48 (.int .i64 (IntKind.i64.wrap (x4_432 + 1))) rfl (p_add rfl rfl rfl) ?_
   refine DL.pu 4 (.int .i64 (IntKind.i64.wrap (x4_432 + 1))) rfl (p_assign rfl rfl) ?_
   refine DL.nil ?_
   refine TT.inLoop ?_
   exact TT.pick [1,2] (by decide) (TT.weak (ih (y_431 ++ t506) (IntKind.i64.wrap (x4_432 + 1)) s514_v s514_c r0_ ho_s514 h513 hk) (Sub.cons rfl (Sub.cons rfl (Sub.cons rfl (Sub.nil _)))))
  ·
   replace c500:=Bool.eq_false_iff.mpr c500
   have h515:=ite_false c500 h
   refine TT.cond_false (x:=sub [1,1,0,1,0,1,1,1,1,1,1,1,1,1,0,1,1,0,0,0,1,0] B45) (y:=sub [1,1,0,1,0,1,1,1,1,1,1,1,1,1,0,1,1,0,0,0,1,1] B45) rfl c500 ?_
   refine TT.exit rfl ?_
   obtain rfl:=Option.some.inj h515
   exact TT.weak (hk y_431_v y_431_c ho_y_431) (Sub.cons rfl (Sub.cons rfl (Sub.nil _)))

def ref13_content.L5 (r_ref13_Pack : Der → Option ((List Int))) (a0 : Der) : Nat → (List Int) → Int → Option (List Int)
 | 0,_,_ => none
 | k + 1,y_519,x5_520 => nm (decide (x5_520 < ((Tree.kids a0).length : Int))) fun t591 => if t591 = true then (req (0 ≤ x5_520) (req (x5_520 < ((Tree.kids a0).length : Int)) (nm ((Tree.kids a0).getD x5_520.toNat Der.dflt) fun t601 => (r_ref13_Pack t601).bind fun t604 => req (y_519.length + t604.length ≤ 1099511627776) (ref13_content.L5 r_ref13_Pack a0 k (y_519 ++ t604) (IntKind.i64.wrap (x5_520 + 1)))))) else (some y_519)
set_option maxRecDepth 20000 in
theorem ref13_content.L5_ok {r_ref13_Pack : Der → Option ((List Int))} (hr_ref13_Pack : ref13_Pack.Rec r_ref13_Pack) (a0 : Der) (a0_3 : Value) (a0_5 : Value) (a0_6 : Value) (b1 : Nat) {R : Ending → World → Prop} {w0 : World} {M0 Mb : Mem} {K : List Item} (hr_a0_6 : RowS ShDer Mb a0_6 (Tree.kids a0)) :
  ∀ (k : Nat) (M I : Mem) (hE : Env w0 M0 M I) (hx : Ext Mb M) (y_519 : List Int) (x5_520 : Int) (y_519_v : Value) (y_519_c : Array Value) (r0_ : List Int) (ho_y_519 : IntOwn .u8 y_519_v y_519_c y_519) (h : ref13_content.L5 r_ref13_Pack a0 k y_519 x5_520 = some r0_) (hk : ∀ (M' I' : Mem),Env w0 M0 M' I' → Ext Mb M' → ∀ (z_o430_590_v : Value),∀ (z_o430_590_c : Array Value),IntOwn .u8 z_o430_590_v z_o430_590_c r0_ → TT Tryd.prog 45 R 79 w0 I' K [(3,z_o430_590_v)] [(Value.ownBlock z_o430_590_v,.cells z_o430_590_c 5 (0,0)),(some b1,.cells ((Der.ce a0 a0_3 a0_5 a0_6)) 27 (0,0))]),
   TT Tryd.prog 45 R 79 w0 I (.code (sub [1,1,1,0,1,0,0] B45) :: .inLoop (sub [1,1,1,0,1,0,0] B45) :: .inBlock 3 :: K) [(1,ptr b1 0),(3,y_519_v),(5,.int .i64 x5_520)] [(Value.ownBlock y_519_v,.cells y_519_c 5 (0,0)),(some b1,.cells ((Der.ce a0 a0_3 a0_5 a0_6)) 27 (0,0))]:=by
 intro k
 induction k with
 | zero => intro M I hE hx y_519 x5_520 y_519_v y_519_c r0_ ho_y_519 h; simp [ref13_content.L5] at h
 | succ k ih =>
  intro M I hE hx y_519 x5_520 y_519_v y_519_c r0_ ho_y_519 h hk
  unfold ref13_content.L5 at h
  refine TT.seq (x:=sub [1,1,1,0,1,0,0,0] B45) (y:=sub [1,1,1,0,1,0,0,1] B45) ?_
  refine TT.seq (x:=sub [1,1,1,0,1,0,0,0,0] B45) (y:=sub [1,1,1,0,1,0,0,0,1] B45) ?_
  refine TT.rg [0,1,2,3,4] [kp,kp,kq,kp,kp] rfl rfl ?_
  refine DL.mv 63 (.int .i64 x5_520) rfl rfl rfl ?_
  refine DL.pu 64 (ptr b1 6) rfl (p_fieldAddr ty_f27_6 rfl rfl) ?_
  refine DL.qu 65 (a0_6) rfl (f_load (j:=1) ty_a25 rfl rfl rfl rfl) ?_
  refine DL.pu 66 (.int .i64 ((Tree.kids a0).length : Int)) rfl (p_slLen ty_u25 (RowS.sl (RowS.mono hr_a0_6 hx)) rfl rfl) ?_
  obtain ⟨t591,e592,h593⟩:=nm_some h
  refine DL.pu 67 (.bool t591) rfl (by rw [e592]; exact p_lss rfl rfl rfl) ?_
  refine DL.nil ?_
  by_cases c594 : t591 = true
  ·
   have h595:=ite_true c594 h593
   refine TT.cond_true (x:=sub [1,1,1,0,1,0,0,0,1,0] B45) (y:=sub [1,1,1,0,1,0,0,0,1,1] B45) rfl c594 ?_
   refine TT.skip ?_
   refine TT.seq (x:=sub [1,1,1,0,1,0,0,1,0] B45) (y:=sub [1,1,1,0,1,0,0,1,1] B45) ?_
   refine TT.block (c:=sub [1,1,1,0,1,0,0,1,0,0] B45) ?_
   refine TT.rg [0,1,2,3,4,5,6,7,8] [kp,kp,kq,kp,kp,kq,kk,kx,kp] rfl rfl ?_
   refine DL.mv 70 (y_519_v) rfl rfl rfl ?_
   refine DL.pu 71 (ptr b1 6) rfl (p_fieldAddr ty_f27_6 rfl rfl) ?_
   refine DL.qu 72 (a0_6) rfl (f_load (j:=1) ty_a25 rfl rfl rfl rfl) ?_
   refine DL.mv 73 (.int .i64 x5_520) rfl rfl rfl ?_
   obtain ⟨g596,h597⟩:=req_some h595
   obtain ⟨g598,h599⟩:=req_some h597
   refine DL.pu 74 (elp a0_6 (x5_520.toNat * 7)) rfl (p_slIx ty_u25 ty_s27 (RowS.some (RowS.mono hr_a0_6 hx) g596 g598) g596 g598 rfl rfl rfl) ?_
   obtain ⟨t601,e602,h603⟩:=nm_some h599
   obtain ⟨cs600,hc600,hl600⟩:=id ((RowS.mono hr_a0_6 hx))
   have q600:=hl600 _ _ (getD_some Der.dflt (lt_len g596 g598)); rw [← e602] at q600
   obtain ⟨t601_3,t601_5,t601_6,hq600,hr_t601_3,hr_t601_5,hr_t601_6⟩:=Der.op q600
   refine DL.qu 75 (.agg (Der.ce t601 t601_3 t601_5 t601_6)) rfl (q_loadElA (fun w hc => hE.imm hc) hc600 hq600 (lt_len g596 g598) ty_a27 ty_s27 rfl rfl) ?_
   obtain ⟨t604,h605,h606⟩:=bind_some h603
   refine DL.callF (G:=Value) (u:=fun g => g) (Q:=fun g M_ => (IntRow M_ .u8 g t604)) (A:=[(Value.ownBlock y_519_v,.cells y_519_c 5 (0,0)),(some b1,.cells ((Der.ce a0 a0_3 a0_5 a0_6)) 27 (0,0))]) (J:=[]) (fun J607 => ((Value.ownBlock y_519_v,.cells y_519_c 5 (0,0)) :: (some b1,.cells ((Der.ce a0 a0_3 a0_5 a0_6)) 27 (0,0)) :: J607)) (Nat.le_refl _) hE.nil (List.append_nil _).symm (fun _ => rfl) (by simp) (i:=6) rfl (Wn.none rfl) rfl rfl rfl rfl rfl rfl (args_val (vs:=[.agg (Der.ce t601 t601_3 t601_5 t601_6)]) rfl) (fun w => enter32 _ w) (fun w hc hI => hr_ref13_Pack h605 (M:=M) w hI hr_t601_3 hr_t601_5 hr_t601_6) ?_
   rintro t604_v M607 J607 hE607 hx607 hr_t604
   show DL _ _ _ _ _ _ _ _ _ _ _ _ ((Value.ownBlock y_519_v,.cells y_519_c 5 (0,0)) :: (some b1,.cells ((Der.ce a0 a0_3 a0_5 a0_6)) 27 (0,0)) :: J607)
   obtain ⟨g608,h609⟩:=req_some h606
   refine DL.appendI (fun s610_v s610_c => ((Value.ownBlock s610_v,.cells s610_c 5 (0,0)) :: (some b1,.cells ((Der.ce a0 a0_3 a0_5 a0_6)) 27 (0,0)) :: J607)) elem23 (j:=0) rfl ho_y_519 g608 (by decide) (fun w hc => RowV.src (RowV.mono hr_t604 (hE607.extJ (A:=[(Value.ownBlock y_519_v,.cells y_519_c 5 (0,0)),(some b1,.cells ((Der.ce a0 a0_3 a0_5 a0_6)) 27 (0,0))]) hc rfl)) (encl_one _ _)) (i:=7) rfl (Wn.none rfl) rfl rfl rfl rfl rfl rfl (fun _ _ => rfl) ?_
   intro s610_v s610_c ho_s610
   show DL _ _ _ _ _ _ _ _ _ _ _ _ ((Value.ownBlock s610_v,.cells s610_c 5 (0,0)) :: (some b1,.cells ((Der.ce a0 a0_3 a0_5 a0_6)) 27 (0,0)) :: J607)
   refine DL.pu 3 (s610_v) rfl (p_assign rfl rfl) ?_
   refine DL.nil ?_
   refine TT.settle (A:=[(Value.ownBlock s610_v,.cells s610_c 5 (0,0)),(some b1,.cells ((Der.ce a0 a0_3 a0_5 a0_6)) 27 (0,0))]) (J:=J607) hE607 ?_
   intro I611 hE611 hxI611
   refine TT.inBlock ?_
   refine TT.rg [0,1,2] [kp,kp,kp] rfl rfl ?_
   refine DL.mv 68 (.int .i64 x5_520) rfl rfl rfl ?_
   refine DL.pu 69 (.int .i64 (IntKind.i64.wrap (x5_520 + 1))) rfl (p_add rfl rfl rfl) ?_
   refine DL.pu 5 (.int .i64 (IntKind.i64.wrap (x5_520 + 1))) rfl (p_assign rfl rfl) ?_
   refine DL.nil ?_
   refine TT.inLoop ?_
   exact TT.weak (ih M607 I611 hE611 (hx.trans hx607) (y_519 ++ t604) (IntKind.i64.wrap (x5_520 + 1)) s610_v s610_c r0_ ho_s610 h609 hk) (Sub.cons rfl (Sub.cons rfl (Sub.cons rfl (Sub.nil _))))
  ·
   replace c594:=Bool.eq_false_iff.mpr c594
   have h612:=ite_false c594 h593
   refine TT.cond_false (x:=sub [1,1,1,0,1,0,0,0,1,0] B45) (y:=sub [1,1,1,0,1,0,0,0,1,1] B45) rfl c594 ?_
   refine TT.exit rfl ?_
   obtain rfl:=Option.some.inj h612
   exact TT.weak (hk M I hE hx y_519_v y_519_c ho_y_519) (Sub.cons rfl (Sub.nil _))

def ref13_content.L6 (r_ref13_Pack : Der → Option ((List Int))) (a0 : Der) : Nat → Option (Unit)
 | 0 => none
 | k + 1 => if (decide (0 < ((Tree.kids a0).length : Int))) = true then (req ((0 : Int) < ((Tree.kids a0).length : Int)) (nm ((Tree.kids a0).getD ((0 : Int).toNat) Der.dflt) fun t700 => (r_ref13_Pack t700).bind fun t703 => req (False) (none))) else (some ())
set_option maxRecDepth 20000 in
theorem ref13_content.L6_ok {r_ref13_Pack : Der → Option ((List Int))} (hr_ref13_Pack : ref13_Pack.Rec r_ref13_Pack) (a0 : Der) (a0_3 : Value) (a0_5 : Value) (a0_6 : Value) (b1 : Nat) (v628 : Value) {R : Ending → World → Prop} {w0 : World} {M0 M I : Mem} {K : List Item} (hE : Env w0 M0 M I) (hr_a0_6 : RowS ShDer M a0_6 (Tree.kids a0)) :
  ∀ (k : Nat) (h : ref13_content.L6 r_ref13_Pack a0 k  = some ()) (hk : TT Tryd.prog 45 R 79 w0 I K [(3,v628)] [(some b1,.cells ((Der.ce a0 a0_3 a0_5 a0_6)) 27 (0,0))]),
   TT Tryd.prog 45 R 79 w0 I (.code (sub [1,1,1,0,1,0,0] B45) :: .inLoop (sub [1,1,1,0,1,0,0] B45) :: .inBlock 3 :: K) [(1,ptr b1 0),(3,v628),(5,.int .i64 0)] [(some b1,.cells ((Der.ce a0 a0_3 a0_5 a0_6)) 27 (0,0))]:=by
 intro k
 induction k with
 | zero => intro  h; simp [ref13_content.L6] at h
 | succ k ih =>
  intro  h hk
  unfold ref13_content.L6 at h
  refine TT.seq (x:=sub [1,1,1,0,1,0,0,0] B45) (y:=sub [1,1,1,0,1,0,0,1] B45) ?_
  refine TT.seq (x:=sub [1,1,1,0,1,0,0,0,0] B45) (y:=sub [1,1,1,0,1,0,0,0,1] B45) ?_
  refine TT.rg [0,1,2,3,4] [kp,kp,kq,kp,kp] rfl rfl ?_
  refine DL.mv 63 (.int .i64 0) rfl rfl rfl ?_
  refine DL.pu 64 (ptr b1 6) rfl (p_fieldAddr ty_f27_6 rfl rfl) ?_
  refine DL.qu 65 (a0_6) rfl (f_load (j:=0) ty_a25 rfl rfl rfl rfl) ?_
  refine DL.pu 66 (.int .i64 ((Tree.kids a0).length : Int)) rfl (p_slLen ty_u25 (RowS.sl hr_a0_6) rfl rfl) ?_
  refine DL.pu 67 (.bool (decide (0 < ((Tree.kids a0).length : Int)))) rfl (p_lss rfl rfl rfl) ?_
  refine DL.nil ?_
  by_cases c695 : (decide (0 < ((Tree.kids a0).length : Int))) = true
  ·
   have h696:=ite_true c695 h
   refine TT.cond_true (x:=sub [1,1,1,0,1,0,0,0,1,0] B45) (y:=sub [1,1,1,0,1,0,0,0,1,1] B45) rfl c695 ?_
   refine TT.skip ?_
   refine TT.seq (x:=sub [1,1,1,0,1,0,0,1,0] B45) (y:=sub [1,1,1,0,1,0,0,1,1] B45) ?_
   refine TT.block (c:=sub [1,1,1,0,1,0,0,1,0,0] B45) ?_
   refine TT.rg [0,1,2,3,4,5,6,7,8] [kp,kp,kq,kp,kp,kq,kk,kx,kp] rfl rfl ?_
   refine DL.mv 70 (v628) rfl rfl rfl ?_
   refine DL.pu 71 (ptr b1 6) rfl (p_fieldAddr ty_f27_6 rfl rfl) ?_
   refine DL.qu 72 (a0_6) rfl (f_load (j:=0) ty_a25 rfl rfl rfl rfl) ?_
   refine DL.mv 73 (.int .i64 0) rfl rfl rfl ?_
   obtain ⟨g697,h698⟩:=req_some h696
   refine DL.pu 74 (elp a0_6 (((0 : Int).toNat) * 7)) rfl (p_slIx ty_u25 ty_s27 (RowS.some hr_a0_6 (by decide) g697) (by decide) g697 rfl rfl rfl) ?_
   obtain ⟨t700,e701,h702⟩:=nm_some h698
   obtain ⟨cs699,hc699,hl699⟩:=id (hr_a0_6)
   have q699:=hl699 _ _ (getD_some Der.dflt (lt_len (by decide) g697)); rw [← e701] at q699
   obtain ⟨t700_3,t700_5,t700_6,hq699,hr_t700_3,hr_t700_5,hr_t700_6⟩:=Der.op q699
   refine DL.qu 75 (.agg (Der.ce t700 t700_3 t700_5 t700_6)) rfl (q_loadElA (fun w hc => hE.imm hc) hc699 hq699 (lt_len (by decide) g697) ty_a27 ty_s27 rfl rfl) ?_
   obtain ⟨t703,h704,h705⟩:=bind_some h702
   refine DL.callF (G:=Value) (u:=fun g => g) (Q:=fun g M_ => (IntRow M_ .u8 g t703)) (A:=[(some b1,.cells ((Der.ce a0 a0_3 a0_5 a0_6)) 27 (0,0))]) (J:=[]) (fun J706 => ((some b1,.cells ((Der.ce a0 a0_3 a0_5 a0_6)) 27 (0,0)) :: J706)) (Nat.le_refl _) hE.nil (List.append_nil _).symm (fun _ => rfl) (by simp) (i:=6) rfl (Wn.none rfl) rfl rfl rfl rfl rfl rfl (args_val (vs:=[.agg (Der.ce t700 t700_3 t700_5 t700_6)]) rfl) (fun w => enter32 _ w) (fun w hc hI => hr_ref13_Pack h704 (M:=M) w hI hr_t700_3 hr_t700_5 hr_t700_6) ?_
   rintro t703_v M706 J706 hE706 hx706 hr_t703
   show DL _ _ _ _ _ _ _ _ _ _ _ _ ((some b1,.cells ((Der.ce a0 a0_3 a0_5 a0_6)) 27 (0,0)) :: J706)
   obtain ⟨g707,h708⟩:=req_some h705
   exact g707.elim
  ·
   replace c695:=Bool.eq_false_iff.mpr c695
   have h709:=ite_false c695 h
   refine TT.cond_false (x:=sub [1,1,1,0,1,0,0,0,1,0] B45) (y:=sub [1,1,1,0,1,0,0,0,1,1] B45) rfl c695 ?_
   refine TT.exit rfl ?_
   exact TT.weak (hk) (Sub.cons rfl (Sub.nil _))

def ref13_content.L7 (r_ref13_Pack : Der → Option ((List Int))) (a0 : Der) : Nat → (List Int) → Int → Option (List Int)
 | 0,_,_ => none
 | k + 1,y_715,x5_716 => nm (decide (x5_716 < ((Tree.kids a0).length : Int))) fun t787 => if t787 = true then (req (0 ≤ x5_716) (req (x5_716 < ((Tree.kids a0).length : Int)) (nm ((Tree.kids a0).getD x5_716.toNat Der.dflt) fun t797 => (r_ref13_Pack t797).bind fun t800 => req (y_715.length + t800.length ≤ 1099511627776) (ref13_content.L7 r_ref13_Pack a0 k (y_715 ++ t800) (IntKind.i64.wrap (x5_716 + 1)))))) else (some y_715)
set_option maxRecDepth 20000 in
theorem ref13_content.L7_ok {r_ref13_Pack : Der → Option ((List Int))} (hr_ref13_Pack : ref13_Pack.Rec r_ref13_Pack) (a0 : Der) (a0_3 : Value) (a0_5 : Value) (a0_6 : Value) (b1 : Nat) {R : Ending → World → Prop} {w0 : World} {M0 Mb : Mem} {K : List Item} (hr_a0_6 : RowS ShDer Mb a0_6 (Tree.kids a0)) :
  ∀ (k : Nat) (M I : Mem) (hE : Env w0 M0 M I) (hx : Ext Mb M) (y_715 : List Int) (x5_716 : Int) (y_715_v : Value) (y_715_c : Array Value) (r0_ : List Int) (ho_y_715 : IntOwn .u8 y_715_v y_715_c y_715) (h : ref13_content.L7 r_ref13_Pack a0 k y_715 x5_716 = some r0_) (hk : ∀ (M' I' : Mem),Env w0 M0 M' I' → Ext Mb M' → ∀ (z_o714_786_v : Value),∀ (z_o714_786_c : Array Value),IntOwn .u8 z_o714_786_v z_o714_786_c r0_ → TT Tryd.prog 45 R 79 w0 I' K [(3,z_o714_786_v)] [(Value.ownBlock z_o714_786_v,.cells z_o714_786_c 5 (0,0)),(some b1,.cells ((Der.ce a0 a0_3 a0_5 a0_6)) 27 (0,0))]),
   TT Tryd.prog 45 R 79 w0 I (.code (sub [1,1,1,0,1,0,0] B45) :: .inLoop (sub [1,1,1,0,1,0,0] B45) :: .inBlock 3 :: K) [(1,ptr b1 0),(3,y_715_v),(5,.int .i64 x5_716)] [(Value.ownBlock y_715_v,.cells y_715_c 5 (0,0)),(some b1,.cells ((Der.ce a0 a0_3 a0_5 a0_6)) 27 (0,0))]:=by
 intro k
 induction k with
 | zero => intro M I hE hx y_715 x5_716 y_715_v y_715_c r0_ ho_y_715 h; simp [ref13_content.L7] at h
 | succ k ih =>
  intro M I hE hx y_715 x5_716 y_715_v y_715_c r0_ ho_y_715 h hk
  unfold ref13_content.L7 at h
  refine TT.seq (x:=sub [1,1,1,0,1,0,0,0] B45) (y:=sub [1,1,1,0,1,0,0,1] B45) ?_
  refine TT.seq (x:=sub [1,1,1,0,1,0,0,0,0] B45) (y:=sub [1,1,1,0,1,0,0,0,1] B45) ?_
  refine TT.rg [0,1,2,3,4] [kp,kp,kq,kp,kp] rfl rfl ?_
  refine DL.mv 63 (.int .i64 x5_716) rfl rfl rfl ?_
  refine DL.pu 64 (ptr b1 6) rfl (p_fieldAddr ty_f27_6 rfl rfl) ?_
  refine DL.qu 65 (a0_6) rfl (f_load (j:=1) ty_a25 rfl rfl rfl rfl) ?_
  refine DL.pu 66 (.int .i64 ((Tree.kids a0).length : Int)) rfl (p_slLen ty_u25 (RowS.sl (RowS.mono hr_a0_6 hx)) rfl rfl) ?_
  obtain ⟨t787,e788,h789⟩:=nm_some h
  refine DL.pu 67 (.bool t787) rfl (by rw [e788]; exact p_lss rfl rfl rfl) ?_
  refine DL.nil ?_
  by_cases c790 : t787 = true
  ·
   have h791:=ite_true c790 h789
   refine TT.cond_true (x:=sub [1,1,1,0,1,0,0,0,1,0] B45) (y:=sub [1,1,1,0,1,0,0,0,1,1] B45) rfl c790 ?_
   refine TT.skip ?_
   refine TT.seq (x:=sub [1,1,1,0,1,0,0,1,0] B45) (y:=sub [1,1,1,0,1,0,0,1,1] B45) ?_
   refine TT.block (c:=sub [1,1,1,0,1,0,0,1,0,0] B45) ?_
   refine TT.rg [0,1,2,3,4,5,6,7,8] [kp,kp,kq,kp,kp,kq,kk,kx,kp] rfl rfl ?_
   refine DL.mv 70 (y_715_v) rfl rfl rfl ?_
   refine DL.pu 71 (ptr b1 6) rfl (p_fieldAddr ty_f27_6 rfl rfl) ?_
   refine DL.qu 72 (a0_6) rfl (f_load (j:=1) ty_a25 rfl rfl rfl rfl) ?_
   refine DL.mv 73 (.int .i64 x5_716) rfl rfl rfl ?_
   obtain ⟨g792,h793⟩:=req_some h791
   obtain ⟨g794,h795⟩:=req_some h793
   refine DL.pu 74 (elp a0_6 (x5_716.toNat * 7)) rfl (p_slIx ty_u25 ty_s27 (RowS.some (RowS.mono hr_a0_6 hx) g792 g794) g792 g794 rfl rfl rfl) ?_
   obtain ⟨t797,e798,h799⟩:=nm_some h795
   obtain ⟨cs796,hc796,hl796⟩:=id ((RowS.mono hr_a0_6 hx))
   have q796:=hl796 _ _ (getD_some Der.dflt (lt_len g792 g794)); rw [← e798] at q796
   obtain ⟨t797_3,t797_5,t797_6,hq796,hr_t797_3,hr_t797_5,hr_t797_6⟩:=Der.op q796
   refine DL.qu 75 (.agg (Der.ce t797 t797_3 t797_5 t797_6)) rfl (q_loadElA (fun w hc => hE.imm hc) hc796 hq796 (lt_len g792 g794) ty_a27 ty_s27 rfl rfl) ?_
   obtain ⟨t800,h801,h802⟩:=bind_some h799
   refine DL.callF (G:=Value) (u:=fun g => g) (Q:=fun g M_ => (IntRow M_ .u8 g t800)) (A:=[(Value.ownBlock y_715_v,.cells y_715_c 5 (0,0)),(some b1,.cells ((Der.ce a0 a0_3 a0_5 a0_6)) 27 (0,0))]) (J:=[]) (fun J803 => ((Value.ownBlock y_715_v,.cells y_715_c 5 (0,0)) :: (some b1,.cells ((Der.ce a0 a0_3 a0_5 a0_6)) 27 (0,0)) :: J803)) (Nat.le_refl _) hE.nil (List.append_nil _).symm (fun _ => rfl) (by simp) (i:=6) rfl (Wn.none rfl) rfl rfl rfl rfl rfl rfl (args_val (vs:=[.agg (Der.ce t797 t797_3 t797_5 t797_6)]) rfl) (fun w => enter32 _ w) (fun w hc hI => hr_ref13_Pack h801 (M:=M) w hI hr_t797_3 hr_t797_5 hr_t797_6) ?_
   rintro t800_v M803 J803 hE803 hx803 hr_t800
   show DL _ _ _ _ _ _ _ _ _ _ _ _ ((Value.ownBlock y_715_v,.cells y_715_c 5 (0,0)) :: (some b1,.cells ((Der.ce a0 a0_3 a0_5 a0_6)) 27 (0,0)) :: J803)
   obtain ⟨g804,h805⟩:=req_some h802
   refine DL.appendI (fun s806_v s806_c => ((Value.ownBlock s806_v,.cells s806_c 5 (0,0)) :: (some b1,.cells ((Der.ce a0 a0_3 a0_5 a0_6)) 27 (0,0)) :: J803)) elem23 (j:=0) rfl ho_y_715 g804 (by decide) (fun w hc => RowV.src (RowV.mono hr_t800 (hE803.extJ (A:=[(Value.ownBlock y_715_v,.cells y_715_c 5 (0,0)),(some b1,.cells ((Der.ce a0 a0_3 a0_5 a0_6)) 27 (0,0))]) hc rfl)) (encl_one _ _)) (i:=7) rfl (Wn.none rfl) rfl rfl rfl rfl rfl rfl (fun _ _ => rfl) ?_
   intro s806_v s806_c ho_s806
   show DL _ _ _ _ _ _ _ _ _ _ _ _ ((Value.ownBlock s806_v,.cells s806_c 5 (0,0)) :: (some b1,.cells ((Der.ce a0 a0_3 a0_5 a0_6)) 27 (0,0)) :: J803)
   refine DL.pu 3 (s806_v) rfl (p_assign rfl rfl) ?_
   refine DL.nil ?_
   refine TT.settle (A:=[(Value.ownBlock s806_v,.cells s806_c 5 (0,0)),(some b1,.cells ((Der.ce a0 a0_3 a0_5 a0_6)) 27 (0,0))]) (J:=J803) hE803 ?_
   intro I807 hE807 hxI807
   refine TT.inBlock ?_
   refine TT.rg [0,1,2] [kp,kp,kp] rfl rfl ?_
   refine DL.mv 68 (.int .i64 x5_716) rfl rfl rfl ?_
   refine DL.pu 69 (.int .i64 (IntKind.i64.wrap (x5_716 + 1))) rfl (p_add rfl rfl rfl) ?_
   refine DL.pu 5 (.int .i64 (IntKind.i64.wrap (x5_716 + 1))) rfl (p_assign rfl rfl) ?_
   refine DL.nil ?_
   refine TT.inLoop ?_
   exact TT.weak (ih M803 I807 hE807 (hx.trans hx803) (y_715 ++ t800) (IntKind.i64.wrap (x5_716 + 1)) s806_v s806_c r0_ ho_s806 h805 hk) (Sub.cons rfl (Sub.cons rfl (Sub.cons rfl (Sub.nil _))))
  ·
   replace c790:=Bool.eq_false_iff.mpr c790
   have h808:=ite_false c790 h789
   refine TT.cond_false (x:=sub [1,1,1,0,1,0,0,0,1,0] B45) (y:=sub [1,1,1,0,1,0,0,0,1,1] B45) rfl c790 ?_
   refine TT.exit rfl ?_
   obtain rfl:=Option.some.inj h808
   exact TT.weak (hk M I hE hx y_715_v y_715_c ho_y_715) (Sub.cons rfl (Sub.nil _))

def ref13_content.f (r_ref13_Pack : Der → Option ((List Int))) (a0 : Der) : Option ((List Int)):=if ((Der.kind a0) == 1) = true then ((if (Der.flag a0) = true then (some [255]) else (some [0])).bind fun j_oj7_8 => (ref13_content.L0 r_ref13_Pack a0 (((Tree.kids a0).length : Int).toNat + 1) j_oj7_8 0).bind fun z_oj7_88 => some z_oj7_88) else (if ((Der.kind a0) == 2) = true then ((ref13_whole.f (Der.num a0)).bind fun t115 => req (t115.length ≤ 1099511627776) ((ref13_content.L1 r_ref13_Pack a0 (((Tree.kids a0).length : Int).toNat + 1) t115 0).bind fun z_o120_192 => some z_o120_192)) else (if ((Der.kind a0) == 3) = true then (req ([0].length + (Der.bytes a0).length ≤ 1099511627776) ((ref13_content.L2 r_ref13_Pack a0 (((Tree.kids a0).length : Int).toNat + 1) ([0] ++ (Der.bytes a0)) 0).bind fun z_o222_298 => some z_o222_298)) else (if ((Der.kind a0) == 4) = true then ((ref13_content.L3 r_ref13_Pack a0 (((Tree.kids a0).length : Int).toNat + 1) ).bind fun _ => some (Der.bytes a0)) else (if ((Der.kind a0) == 5) = true then (req ((0 : Int) < ((Der.arcs a0).length : Int)) (nm (IntKind.u64.wrap (40 * ((Der.arcs a0).getD ((0 : Int).toNat) 0))) fun t417 => req ((1 : Int) < ((Der.arcs a0).length : Int)) (nm (IntKind.u64.wrap (t417 + ((Der.arcs a0).getD ((1 : Int).toNat) 0))) fun t422 => (ref13_groups.f t422).bind fun t425 => req (t425.length ≤ 1099511627776) ((ref13_content.L4 a0 ((((Der.arcs a0).length : Int) - (2 : Int)).toNat + 1) t425 2).bind fun z_o430_499 => (ref13_content.L5 r_ref13_Pack a0 (((Tree.kids a0).length : Int).toNat + 1) z_o430_499 0).bind fun z_o430_590 => some z_o430_590)))) else ((if ((Der.kind a0) == 6) = true then (some ((Der.kind a0) == 6)) else (some ((Der.kind a0) == 10))).bind fun j57_619 => if j57_619 = true then ((ref13_content.L6 r_ref13_Pack a0 (((Tree.kids a0).length : Int).toNat + 1) ).bind fun _ => some (numsL (Der.text a0))) else ((ref13_content.L7 r_ref13_Pack a0 (((Tree.kids a0).length : Int).toNat + 1) ([] : List Int) 0).bind fun z_o714_786 => some z_o714_786))))))
set_option maxRecDepth 20000 in
theorem ref13_content.ok {r_ref13_Pack : Der → Option ((List Int))} (hr_ref13_Pack : ref13_Pack.Rec r_ref13_Pack) {a0 : Der} {a0_3 : Value} {a0_5 : Value} {a0_6 : Value} {r : List Int} (h : ref13_content.f r_ref13_Pack a0 = some r) {M : Mem} (w : World) (hM : Ext M (heapOf w)) (hr_a0_3 : IntRow M .u8 a0_3 (Der.bytes a0)) (hr_a0_5 : IntRow M .u64 a0_5 (Der.arcs a0)) (hr_a0_6 : RowS ShDer M a0_6 (Tree.kids a0)) : Calls Tryd.prog 45 #[.agg (Der.ce a0 a0_3 a0_5 a0_6)] w (PostF (G:=Value) (fun g => g) (fun g M_ => (IntRow M_ .u8 g r)) M w):=by
 unfold ref13_content.f at h
 have hE:=Env.start hM
 refine calls_of_TT (N:=79) (S:=[(0,.agg (Der.ce a0 a0_3 a0_5 a0_6))]) (c:=B45) Tryd.func45 rfl rfl rfl (by simp) ?_
 show TT _ _ _ _ _ _ [.code (sub [] B45)] _ _
 refine TT.seq (x:=sub [0] B45) (y:=sub [1] B45) ?_
 refine TT.rg [0,1] [(.alloc,none),kp] rfl rfl ?_
 refine DL.new (ob:=.cells ((Der.ce a0 a0_3 a0_5 a0_6)) 27) (mk:=fun b => ptr b 0) (i:=0) rfl (Wn.none rfl) rfl rfl rfl (f_box (v:=.agg (Der.ce a0 a0_3 a0_5 a0_6)) rfl rfl) ?_
 intro b1 hb1
 refine DL.pu 2 (.slice none 0 0) rfl (p_assign rfl rfl) ?_
 refine DL.nil ?_
 refine TT.seq (x:=sub [1,0] B45) (y:=sub [1,1] B45) ?_
 refine TT.rg [0] [kp] rfl rfl ?_
 refine DL.pu 3 (.slice none 0 0) rfl (p_assign rfl rfl) ?_
 refine DL.nil ?_
 refine TT.seq (x:=sub [1,1,0] B45) (y:=sub [1,1,1] B45) ?_
 refine TT.seq (x:=sub [1,1,0,0] B45) (y:=sub [1,1,0,1] B45) ?_
 refine TT.rg [0,1] [kp,kq] rfl rfl ?_
 refine DL.pu 6 (ptr b1 0) rfl (p_fieldAddr ty_f27_0 rfl rfl) ?_
 refine DL.qu 7 (.int .i64 (Der.kind a0)) rfl (f_load (j:=0) ty_a22 rfl rfl rfl rfl) ?_
 refine DL.nil ?_
 refine TT.block (c:=sub [1,1,0,1,0] B45) ?_
 refine TT.seq (x:=sub [1,1,0,1,0,0] B45) (y:=sub [1,1,0,1,0,1] B45) ?_
 refine TT.rg [0,1] [kp,kp] rfl rfl ?_
 refine DL.pu 9 (.bool ((Der.kind a0) == 1)) rfl (p_eql rfl rfl rfl) ?_
 refine DL.pu 8 (.bool ((Der.kind a0) == 1)) rfl (p_assign rfl rfl) ?_
 refine DL.nil ?_
 by_cases c2 : ((Der.kind a0) == 1) = true
 ·
  have h3:=ite_true c2 h
  refine TT.cond_true (x:=sub [1,1,0,1,0,1,0] B45) (y:=sub [1,1,0,1,0,1,1] B45) rfl c2 ?_
  refine TT.seq (x:=sub [1,1,0,1,0,1,0,0] B45) (y:=sub [1,1,0,1,0,1,0,1] B45) ?_
  refine TT.rg [0,1] [(.alloc,none),kp] rfl rfl ?_
  refine DL.newSl (zs:=[0]) (n:=1) rfl (by decide) (i:=0) rfl (Wn.none rfl) rfl rfl rfl (f_buildSl (n:=1) (zs:=[0]) (vs:=[(0,.int .u8 0)]) elem23 rfl rfl (by kernel_rfl) rfl (args_val2 rfl)) ?_
  intro s5_v s5_c ho_s5
  refine DL.pu 3 (s5_v) rfl (p_assign rfl rfl) ?_
  refine DL.nil ?_
  refine TT.seq (x:=sub [1,1,0,1,0,1,0,1,0] B45) (y:=sub [1,1,0,1,0,1,0,1,1] B45) ?_
  refine TT.rg [0,1] [kp,kq] rfl rfl ?_
  refine DL.pu 11 (ptr b1 1) rfl (p_fieldAddr ty_f27_1 rfl rfl) ?_
  refine DL.qu 12 (.bool (Der.flag a0)) rfl (f_load (j:=1) ty_a4 rfl rfl rfl rfl) ?_
  refine DL.nil ?_
  obtain ⟨j_oj7_8,h9,h10⟩:=bind_some h3
  have J11 : ∀ (j_oj7_8_v : Value),∀ (j_oj7_8_c : Array Value),IntOwn .u8 j_oj7_8_v j_oj7_8_c j_oj7_8 → TT Tryd.prog 45 (PostF (G:=Value) (fun g => g) (fun g M_ => (IntRow M_ .u8 g r)) M w) 79 w (heapOf w) (.inBlock 0 :: .code (sub [1,1,1] B45) :: []) [(1,ptr b1 0),(3,j_oj7_8_v)] [(Value.ownBlock j_oj7_8_v,.cells j_oj7_8_c 5 (0,0)),(some b1,.cells ((Der.ce a0 a0_3 a0_5 a0_6)) 27 (0,0))]:=by
   intro j_oj7_8_v j_oj7_8_c ho_j_oj7_8
   refine TT.inBlock ?_
   refine TT.seq (x:=sub [1,1,1,0] B45) (y:=sub [1,1,1,1] B45) ?_
   refine TT.seq (x:=sub [1,1,1,0,0] B45) (y:=sub [1,1,1,0,1] B45) ?_
   refine TT.rg [0] [kp] rfl rfl ?_
   refine DL.pu 5 (.int .i64 0) rfl (p_assign rfl rfl) ?_
   refine DL.nil ?_
   refine TT.block (c:=sub [1,1,1,0,1,0] B45) ?_
   refine TT.loop (c:=sub [1,1,1,0,1,0,0] B45) ?_
   obtain ⟨z_oj7_88,h108,h109⟩:=bind_some h10
   refine TT.weak (ref13_content.L0_ok hr_ref13_Pack a0 a0_3 a0_5 a0_6 b1 hr_a0_6 (((Tree.kids a0).length : Int).toNat + 1) M (heapOf w) hE (Ext.refl _) j_oj7_8 0 j_oj7_8_v j_oj7_8_c z_oj7_88 ho_j_oj7_8 h108 (fun M110 I110 hE110 hx110 z_oj7_88_v z_oj7_88_c ho_z_oj7_88 => ?_)) (Sub.cons rfl (Sub.cons rfl (Sub.cons rfl (Sub.nil _))))
   refine TT.seq (x:=sub [1,1,1,1,0] B45) (y:=sub [1,1,1,1,1] B45) ?_
   refine TT.rg [0,1] [kp,kp] rfl rfl ?_
   refine DL.mv 78 (z_oj7_88_v) rfl rfl rfl ?_
   refine DL.pu 2 (z_oj7_88_v) rfl (p_assign rfl rfl) ?_
   refine DL.nil ?_
   refine TT.freezeAt (j:=0) hE110 rfl ?_
   intro M111 I111 hE111 hx111 hxI111 hb111
   have hr_111 : IntRow M111 .u8 z_oj7_88_v z_oj7_88:=IntOwn.stays ho_z_oj7_88 hb111
   show TT _ _ _ _ _ _ _ _ [(some b1,.cells ((Der.ce a0 a0_3 a0_5 a0_6)) 27 (0,0))]
   obtain rfl:=Option.some.inj h109
   exact retF (rs:=[.tmp 2]) (vs:=[z_oj7_88_v]) z_oj7_88_v hE111 Tryd.func45 rfl rfl rfl (res_cons (ResV.tmp rfl) res_nil) hr_111
  by_cases c6 : (Der.flag a0) = true
  ·
   have h13:=ite_true c6 h9
   refine TT.cond_true (x:=sub [1,1,0,1,0,1,0,1,1,0] B45) (y:=sub [1,1,0,1,0,1,0,1,1,1] B45) rfl c6 ?_
   refine TT.rg [0,1] [(.alloc,none),kp] rfl rfl ?_
   refine DL.newSl (zs:=[255]) (n:=1) rfl (by decide) (i:=0) rfl (Wn.none rfl) rfl rfl rfl (f_buildSl (n:=1) (zs:=[255]) (vs:=[(0,.int .u8 255)]) elem23 rfl rfl (by kernel_rfl) rfl (args_val2 rfl)) ?_
   intro s15_v s15_c ho_s15
   refine DL.pu 3 (s15_v) rfl (p_assign rfl rfl) ?_
   refine DL.nil ?_
   obtain rfl:=Option.some.inj h13
   exact TT.pick [0,2] (by decide) (TT.weak (J11 s15_v s15_c ho_s15) (Sub.cons rfl (Sub.cons rfl (Sub.nil _))))
  ·
   replace c6:=Bool.eq_false_iff.mpr c6
   have h16:=ite_false c6 h9
   refine TT.cond_false (x:=sub [1,1,0,1,0,1,0,1,1,0] B45) (y:=sub [1,1,0,1,0,1,0,1,1,1] B45) rfl c6 ?_
   refine TT.skip ?_
   obtain rfl:=Option.some.inj h16
   exact TT.weak (J11 s5_v s5_c ho_s5) (Sub.cons rfl (Sub.cons rfl (Sub.nil _)))
 ·
  replace c2:=Bool.eq_false_iff.mpr c2
  have h112:=ite_false c2 h
  refine TT.cond_false (x:=sub [1,1,0,1,0,1,0] B45) (y:=sub [1,1,0,1,0,1,1] B45) rfl c2 ?_
  refine TT.seq (x:=sub [1,1,0,1,0,1,1,0] B45) (y:=sub [1,1,0,1,0,1,1,1] B45) ?_
  refine TT.rg [0,1] [kp,kp] rfl rfl ?_
  refine DL.pu 15 (.bool ((Der.kind a0) == 2)) rfl (p_eql rfl rfl rfl) ?_
  refine DL.pu 14 (.bool ((Der.kind a0) == 2)) rfl (p_assign rfl rfl) ?_
  refine DL.nil ?_
  by_cases c113 : ((Der.kind a0) == 2) = true
  ·
   have h114:=ite_true c113 h112
   refine TT.cond_true (x:=sub [1,1,0,1,0,1,1,1,0] B45) (y:=sub [1,1,0,1,0,1,1,1,1] B45) rfl c113 ?_
   refine TT.rg [0,1,2,3] [kp,kq,kx,kp] rfl rfl ?_
   refine DL.pu 16 (ptr b1 2) rfl (p_fieldAddr ty_f27_2 rfl rfl) ?_
   refine DL.qu 17 (.int .i64 (Der.num a0)) rfl (f_load (j:=0) ty_a2 rfl rfl rfl rfl) ?_
   obtain ⟨t115,h116,h117⟩:=bind_some h114
   obtain ⟨g118,h119⟩:=req_some h117
   refine DL.ownx (zs:=t115) (H':=fun t115_v t115_c => [(Value.ownBlock t115_v,.cells t115_c 5 (0,0)),(some b1,.cells ((Der.ce a0 a0_3 a0_5 a0_6)) 27 (0,0))]) (i:=2) rfl (Wn.none rfl) rfl rfl rfl (f_callOwn rfl rfl (args_val (vs:=[.int .i64 (Der.num a0)]) rfl) (fun w => enter61 _ w) (fun w hc => ref13_whole.ok h116 (M:=M) w (hE.ext hc) )) (fun _ => rfl) ?_
   intro t115_v t115_c ho_t115
   show DL _ _ _ _ _ _ _ _ _ _ _ _ [(Value.ownBlock t115_v,.cells t115_c 5 (0,0)),(some b1,.cells ((Der.ce a0 a0_3 a0_5 a0_6)) 27 (0,0))]
   refine DL.pu 3 (t115_v) rfl (p_assign rfl rfl) ?_
   refine DL.nil ?_
   refine TT.inBlock ?_
   refine TT.seq (x:=sub [1,1,1,0] B45) (y:=sub [1,1,1,1] B45) ?_
   refine TT.seq (x:=sub [1,1,1,0,0] B45) (y:=sub [1,1,1,0,1] B45) ?_
   refine TT.rg [0] [kp] rfl rfl ?_
   refine DL.pu 5 (.int .i64 0) rfl (p_assign rfl rfl) ?_
   refine DL.nil ?_
   refine TT.block (c:=sub [1,1,1,0,1,0] B45) ?_
   refine TT.loop (c:=sub [1,1,1,0,1,0,0] B45) ?_
   obtain ⟨z_o120_192,h215,h216⟩:=bind_some h119
   refine TT.weak (ref13_content.L1_ok hr_ref13_Pack a0 a0_3 a0_5 a0_6 b1 hr_a0_6 (((Tree.kids a0).length : Int).toNat + 1) M (heapOf w) hE (Ext.refl _) t115 0 t115_v t115_c z_o120_192 ho_t115 h215 (fun M217 I217 hE217 hx217 z_o120_192_v z_o120_192_c ho_z_o120_192 => ?_)) (Sub.cons rfl (Sub.cons rfl (Sub.cons rfl (Sub.nil _))))
   refine TT.seq (x:=sub [1,1,1,1,0] B45) (y:=sub [1,1,1,1,1] B45) ?_
   refine TT.rg [0,1] [kp,kp] rfl rfl ?_
   refine DL.mv 78 (z_o120_192_v) rfl rfl rfl ?_
   refine DL.pu 2 (z_o120_192_v) rfl (p_assign rfl rfl) ?_
   refine DL.nil ?_
   refine TT.freezeAt (j:=0) hE217 rfl ?_
   intro M218 I218 hE218 hx218 hxI218 hb218
   have hr_218 : IntRow M218 .u8 z_o120_192_v z_o120_192:=IntOwn.stays ho_z_o120_192 hb218
   show TT _ _ _ _ _ _ _ _ [(some b1,.cells ((Der.ce a0 a0_3 a0_5 a0_6)) 27 (0,0))]
   obtain rfl:=Option.some.inj h216
   exact retF (rs:=[.tmp 2]) (vs:=[z_o120_192_v]) z_o120_192_v hE218 Tryd.func45 rfl rfl rfl (res_cons (ResV.tmp rfl) res_nil) hr_218
  ·
   replace c113:=Bool.eq_false_iff.mpr c113
   have h219:=ite_false c113 h112
   refine TT.cond_false (x:=sub [1,1,0,1,0,1,1,1,0] B45) (y:=sub [1,1,0,1,0,1,1,1,1] B45) rfl c113 ?_
   refine TT.seq (x:=sub [1,1,0,1,0,1,1,1,1,0] B45) (y:=sub [1,1,0,1,0,1,1,1,1,1] B45) ?_
   refine TT.rg [0,1] [kp,kp] rfl rfl ?_
   refine DL.pu 20 (.bool ((Der.kind a0) == 3)) rfl (p_eql rfl rfl rfl) ?_
   refine DL.pu 19 (.bool ((Der.kind a0) == 3)) rfl (p_assign rfl rfl) ?_
   refine DL.nil ?_
   by_cases c220 : ((Der.kind a0) == 3) = true
   ·
    have h221:=ite_true c220 h219
    refine TT.cond_true (x:=sub [1,1,0,1,0,1,1,1,1,1,0] B45) (y:=sub [1,1,0,1,0,1,1,1,1,1,1] B45) rfl c220 ?_
    refine TT.rg [0,1,2,3,4] [(.alloc,none),kp,kq,kx,kp] rfl rfl ?_
    refine DL.newSl (zs:=[0]) (n:=1) rfl (by decide) (i:=0) rfl (Wn.none rfl) rfl rfl rfl (f_buildSl (n:=1) (zs:=[0]) (vs:=[(0,.int .u8 0)]) elem23 rfl rfl (by kernel_rfl) rfl (args_val2 rfl)) ?_
    intro s223_v s223_c ho_s223
    refine DL.pu 22 (ptr b1 3) rfl (p_fieldAddr ty_f27_3 rfl rfl) ?_
    refine DL.qu 23 (a0_3) rfl (f_load (j:=1) ty_a23 rfl rfl rfl rfl) ?_
    obtain ⟨g224,h225⟩:=req_some h221
    refine DL.appendI (fun s226_v s226_c => [(Value.ownBlock s226_v,.cells s226_c 5 (0,0)),(some b1,.cells ((Der.ce a0 a0_3 a0_5 a0_6)) 27 (0,0))]) elem23 (j:=0) rfl ho_s223 g224 (by decide) (fun w hc => RowV.src (RowV.mono hr_a0_3 (hE.ext hc)) (encl_one _ _)) (i:=3) rfl (Wn.none rfl) rfl rfl rfl rfl rfl rfl (fun _ _ => rfl) ?_
    intro s226_v s226_c ho_s226
    show DL _ _ _ _ _ _ _ _ _ _ _ _ [(Value.ownBlock s226_v,.cells s226_c 5 (0,0)),(some b1,.cells ((Der.ce a0 a0_3 a0_5 a0_6)) 27 (0,0))]
    refine DL.pu 3 (s226_v) rfl (p_assign rfl rfl) ?_
    refine DL.nil ?_
    refine TT.inBlock ?_
    refine TT.seq (x:=sub [1,1,1,0] B45) (y:=sub [1,1,1,1] B45) ?_
    refine TT.seq (x:=sub [1,1,1,0,0] B45) (y:=sub [1,1,1,0,1] B45) ?_
    refine TT.rg [0] [kp] rfl rfl ?_
    refine DL.pu 5 (.int .i64 0) rfl (p_assign rfl rfl) ?_
    refine DL.nil ?_
    refine TT.block (c:=sub [1,1,1,0,1,0] B45) ?_
    refine TT.loop (c:=sub [1,1,1,0,1,0,0] B45) ?_
    obtain ⟨z_o222_298,h321,h322⟩:=bind_some h225
    refine TT.weak (ref13_content.L2_ok hr_ref13_Pack a0 a0_3 a0_5 a0_6 b1 hr_a0_6 (((Tree.kids a0).length : Int).toNat + 1) M (heapOf w) hE (Ext.refl _) ([0] ++ (Der.bytes a0)) 0 s226_v s226_c z_o222_298 ho_s226 h321 (fun M323 I323 hE323 hx323 z_o222_298_v z_o222_298_c ho_z_o222_298 => ?_)) (Sub.cons rfl (Sub.cons rfl (Sub.cons rfl (Sub.nil _))))
    refine TT.seq (x:=sub [1,1,1,1,0] B45) (y:=sub [1,1,1,1,1] B45) ?_
    refine TT.rg [0,1] [kp,kp] rfl rfl ?_
    refine DL.mv 78 (z_o222_298_v) rfl rfl rfl ?_
    refine DL.pu 2 (z_o222_298_v) rfl (p_assign rfl rfl) ?_
    refine DL.nil ?_
    refine TT.freezeAt (j:=0) hE323 rfl ?_
    intro M324 I324 hE324 hx324 hxI324 hb324
    have hr_324 : IntRow M324 .u8 z_o222_298_v z_o222_298:=IntOwn.stays ho_z_o222_298 hb324
    show TT _ _ _ _ _ _ _ _ [(some b1,.cells ((Der.ce a0 a0_3 a0_5 a0_6)) 27 (0,0))]
    obtain rfl:=Option.some.inj h322
    exact retF (rs:=[.tmp 2]) (vs:=[z_o222_298_v]) z_o222_298_v hE324 Tryd.func45 rfl rfl rfl (res_cons (ResV.tmp rfl) res_nil) hr_324
   ·
    replace c220:=Bool.eq_false_iff.mpr c220
    have h325:=ite_false c220 h219
    refine TT.cond_false (x:=sub [1,1,0,1,0,1,1,1,1,1,0] B45) (y:=sub [1,1,0,1,0,1,1,1,1,1,1] B45) rfl c220 ?_
    refine TT.seq (x:=sub [1,1,0,1,0,1,1,1,1,1,1,0] B45) (y:=sub [1,1,0,1,0,1,1,1,1,1,1,1] B45) ?_
    refine TT.rg [0,1] [kp,kp] rfl rfl ?_
    refine DL.pu 26 (.bool ((Der.kind a0) == 4)) rfl (p_eql rfl rfl rfl) ?_
    refine DL.pu 25 (.bool ((Der.kind a0) == 4)) rfl (p_assign rfl rfl) ?_
    refine DL.nil ?_
    by_cases c326 : ((Der.kind a0) == 4) = true
    ·
     have h327:=ite_true c326 h325
     refine TT.cond_true (x:=sub [1,1,0,1,0,1,1,1,1,1,1,1,0] B45) (y:=sub [1,1,0,1,0,1,1,1,1,1,1,1,1] B45) rfl c326 ?_
     refine TT.rg [0,1,2] [kp,kq,kp] rfl rfl ?_
     refine DL.pu 27 (ptr b1 3) rfl (p_fieldAddr ty_f27_3 rfl rfl) ?_
     refine DL.qu 28 (a0_3) rfl (f_load (j:=0) ty_a23 rfl rfl rfl rfl) ?_
     refine DL.pu 3 (a0_3) rfl (p_assign rfl rfl) ?_
     refine DL.nil ?_
     refine TT.inBlock ?_
     refine TT.seq (x:=sub [1,1,1,0] B45) (y:=sub [1,1,1,1] B45) ?_
     refine TT.seq (x:=sub [1,1,1,0,0] B45) (y:=sub [1,1,1,0,1] B45) ?_
     refine TT.rg [0] [kp] rfl rfl ?_
     refine DL.pu 5 (.int .i64 0) rfl (p_assign rfl rfl) ?_
     refine DL.nil ?_
     refine TT.block (c:=sub [1,1,1,0,1,0] B45) ?_
     refine TT.loop (c:=sub [1,1,1,0,1,0,0] B45) ?_
     obtain ⟨_,h408,h409⟩:=bind_some h327
     refine TT.weak (ref13_content.L3_ok hr_ref13_Pack a0 a0_3 a0_5 a0_6 b1 hE hr_a0_6 (((Tree.kids a0).length : Int).toNat + 1)   h408 ( ?_)) (Sub.cons rfl (Sub.cons rfl (Sub.cons rfl (Sub.nil _))))
     refine TT.seq (x:=sub [1,1,1,1,0] B45) (y:=sub [1,1,1,1,1] B45) ?_
     refine TT.rg [0,1] [kp,kp] rfl rfl ?_
     refine DL.mv 78 (a0_3) rfl rfl rfl ?_
     refine DL.pu 2 (a0_3) rfl (p_assign rfl rfl) ?_
     refine DL.nil ?_
     obtain rfl:=Option.some.inj h409
     exact retF (rs:=[.tmp 2]) (vs:=[a0_3]) a0_3 hE Tryd.func45 rfl rfl rfl (res_cons (ResV.tmp rfl) res_nil) hr_a0_3
    ·
     replace c326:=Bool.eq_false_iff.mpr c326
     have h411:=ite_false c326 h325
     refine TT.cond_false (x:=sub [1,1,0,1,0,1,1,1,1,1,1,1,0] B45) (y:=sub [1,1,0,1,0,1,1,1,1,1,1,1,1] B45) rfl c326 ?_
     refine TT.seq (x:=sub [1,1,0,1,0,1,1,1,1,1,1,1,1,0] B45) (y:=sub [1,1,0,1,0,1,1,1,1,1,1,1,1,1] B45) ?_
     refine TT.rg [0,1] [kp,kp] rfl rfl ?_
     refine DL.pu 30 (.bool ((Der.kind a0) == 5)) rfl (p_eql rfl rfl rfl) ?_
     refine DL.pu 29 (.bool ((Der.kind a0) == 5)) rfl (p_assign rfl rfl) ?_
     refine DL.nil ?_
     by_cases c412 : ((Der.kind a0) == 5) = true
     ·
      have h413:=ite_true c412 h411
      refine TT.cond_true (x:=sub [1,1,0,1,0,1,1,1,1,1,1,1,1,1,0] B45) (y:=sub [1,1,0,1,0,1,1,1,1,1,1,1,1,1,1] B45) rfl c412 ?_
      refine TT.seq (x:=sub [1,1,0,1,0,1,1,1,1,1,1,1,1,1,0,0] B45) (y:=sub [1,1,0,1,0,1,1,1,1,1,1,1,1,1,0,1] B45) ?_
      refine TT.rgD [0,1,2,3,4,5,6,7,8,9,10,11] [0,1,3,7,15,0,32,96,224,511,1023,2047] [kp,(.look,some 0),kp,kq,kp,kp,(.look,some 0),kp,kq,kp,kx,kp] rfl mixed (by kernel_rfl) ?_
      intro w414 hl414 hj414 hz414
      refine DL.pu 31 (ptr b1 5) rfl (p_fieldAddr ty_f27_5 rfl rfl) ?_
      refine DL.look (v:=a0_5) (x:=0) (b:=b1) (i:=1) rfl (Wn.none rfl) rfl rfl rfl rfl rfl (List.mem_of_getElem? (i:=0) rfl) (b_load ty_a24 rfl rfl rfl) ?_
      obtain ⟨g415,h416⟩:=req_some h413
      refine DL.pu 33 (elp a0_5 ((0 : Int).toNat)) rfl (p_slIx1 ty_u24 ty_s50 (RowV.some hr_a0_5 (by decide) g415) (by decide) g415 rfl rfl rfl) ?_
      refine DL.qu 34 (.int .u64 ((Der.arcs a0).getD ((0 : Int).toNat) 0)) rfl (q_loadEl (fun w hc => hE.imm hc) hr_a0_5 (encl_get .u64 (lt_len (by decide) g415)) ty_a50 rfl rfl) ?_
      obtain ⟨t417,e418,h419⟩:=nm_some h416
      refine DL.pu 35 (.int .u64 t417) rfl (by rw [e418]; exact p_mul rfl rfl rfl) ?_
      refine DL.pu 36 (ptr b1 5) rfl (p_fieldAddr ty_f27_5 rfl rfl) ?_
      refine DL.look (v:=a0_5) (x:=0) (b:=b1) (i:=6) rfl (Wn.none rfl) rfl rfl rfl rfl rfl (List.mem_of_getElem? (i:=0) rfl) (b_load ty_a24 rfl rfl rfl) ?_
      obtain ⟨g420,h421⟩:=req_some h419
      refine DL.pu 38 (elp a0_5 ((1 : Int).toNat)) rfl (p_slIx1 ty_u24 ty_s50 (RowV.some hr_a0_5 (by decide) g420) (by decide) g420 rfl rfl rfl) ?_
      refine DL.qu 39 (.int .u64 ((Der.arcs a0).getD ((1 : Int).toNat) 0)) rfl (q_loadEl (fun w hc => hE.imm hc) hr_a0_5 (encl_get .u64 (lt_len (by decide) g420)) ty_a50 rfl rfl) ?_
      obtain ⟨t422,e423,h424⟩:=nm_some h421
      refine DL.pu 40 (.int .u64 t422) rfl (by rw [e423]; exact p_add rfl rfl rfl) ?_
      obtain ⟨t425,h426,h427⟩:=bind_some h424
      obtain ⟨g428,h429⟩:=req_some h427
      refine DL.ownx (zs:=t425) (H':=fun t425_v t425_c => [(Value.ownBlock t425_v,.cells t425_c 5 (0,0)),(some b1,.cells ((Der.ce a0 a0_3 a0_5 a0_6)) 27 (0,0))]) (i:=10) rfl (Wn.none rfl) rfl rfl rfl (f_callOwn rfl rfl (args_val (vs:=[.int .u64 t422]) rfl) (fun w => enter62 _ w) (fun w hc => ref13_groups.ok h426 (M:=M) w (hE.ext hc) )) (fun _ => rfl) ?_
      intro t425_v t425_c ho_t425
      show DL _ _ _ _ _ _ _ _ _ _ _ _ [(Value.ownBlock t425_v,.cells t425_c 5 (0,0)),(some b1,.cells ((Der.ce a0 a0_3 a0_5 a0_6)) 27 (0,0))]
      refine DL.pu 3 (t425_v) rfl (p_assign rfl rfl) ?_
      refine DL.nil' hl414 ?_
      refine TT.seq (x:=sub [1,1,0,1,0,1,1,1,1,1,1,1,1,1,0,1,0] B45) (y:=sub [1,1,0,1,0,1,1,1,1,1,1,1,1,1,0,1,1] B45) ?_
      refine TT.rg [0] [kp] rfl rfl ?_
      refine DL.pu 4 (.int .i64 2) rfl (p_assign rfl rfl) ?_
      refine DL.nil ?_
      refine TT.block (c:=sub [1,1,0,1,0,1,1,1,1,1,1,1,1,1,0,1,1,0] B45) ?_
      refine TT.loop (c:=sub [1,1,0,1,0,1,1,1,1,1,1,1,1,1,0,1,1,0,0] B45) ?_
      obtain ⟨z_o430_499,h516,h517⟩:=bind_some h429
      refine TT.weak (ref13_content.L4_ok a0 a0_3 a0_5 a0_6 b1 hE hr_a0_5 ((((Der.arcs a0).length : Int) - (2 : Int)).toNat + 1) t425 2 t425_v t425_c z_o430_499 ho_t425 h516 (fun z_o430_499_v z_o430_499_c ho_z_o430_499 => ?_)) (Sub.cons rfl (Sub.cons rfl (Sub.cons rfl (Sub.nil _))))
      refine TT.inBlock ?_
      refine TT.seq (x:=sub [1,1,1,0] B45) (y:=sub [1,1,1,1] B45) ?_
      refine TT.seq (x:=sub [1,1,1,0,0] B45) (y:=sub [1,1,1,0,1] B45) ?_
      refine TT.rg [0] [kp] rfl rfl ?_
      refine DL.pu 5 (.int .i64 0) rfl (p_assign rfl rfl) ?_
      refine DL.nil ?_
      refine TT.block (c:=sub [1,1,1,0,1,0] B45) ?_
      refine TT.loop (c:=sub [1,1,1,0,1,0,0] B45) ?_
      obtain ⟨z_o430_590,h613,h614⟩:=bind_some h517
      refine TT.weak (ref13_content.L5_ok hr_ref13_Pack a0 a0_3 a0_5 a0_6 b1 hr_a0_6 (((Tree.kids a0).length : Int).toNat + 1) M (heapOf w) hE (Ext.refl _) z_o430_499 0 z_o430_499_v z_o430_499_c z_o430_590 ho_z_o430_499 h613 (fun M615 I615 hE615 hx615 z_o430_590_v z_o430_590_c ho_z_o430_590 => ?_)) (Sub.cons rfl (Sub.cons rfl (Sub.cons rfl (Sub.nil _))))
      refine TT.seq (x:=sub [1,1,1,1,0] B45) (y:=sub [1,1,1,1,1] B45) ?_
      refine TT.rg [0,1] [kp,kp] rfl rfl ?_
      refine DL.mv 78 (z_o430_590_v) rfl rfl rfl ?_
      refine DL.pu 2 (z_o430_590_v) rfl (p_assign rfl rfl) ?_
      refine DL.nil ?_
      refine TT.freezeAt (j:=0) hE615 rfl ?_
      intro M616 I616 hE616 hx616 hxI616 hb616
      have hr_616 : IntRow M616 .u8 z_o430_590_v z_o430_590:=IntOwn.stays ho_z_o430_590 hb616
      show TT _ _ _ _ _ _ _ _ [(some b1,.cells ((Der.ce a0 a0_3 a0_5 a0_6)) 27 (0,0))]
      obtain rfl:=Option.some.inj h614
      exact retF (rs:=[.tmp 2]) (vs:=[z_o430_590_v]) z_o430_590_v hE616 Tryd.func45 rfl rfl rfl (res_cons (ResV.tmp rfl) res_nil) hr_616
     ·
      replace c412:=Bool.eq_false_iff.mpr c412
      have h617:=ite_false c412 h411
      refine TT.cond_false (x:=sub [1,1,0,1,0,1,1,1,1,1,1,1,1,1,0] B45) (y:=sub [1,1,0,1,0,1,1,1,1,1,1,1,1,1,1] B45) rfl c412 ?_
      refine TT.seq (x:=sub [1,1,0,1,0,1,1,1,1,1,1,1,1,1,1,0] B45) (y:=sub [1,1,0,1,0,1,1,1,1,1,1,1,1,1,1,1] B45) ?_
      refine TT.seq (x:=sub [1,1,0,1,0,1,1,1,1,1,1,1,1,1,1,0,0] B45) (y:=sub [1,1,0,1,0,1,1,1,1,1,1,1,1,1,1,0,1] B45) ?_
      refine TT.rg [0,1] [kp,kp] rfl rfl ?_
      refine DL.pu 58 (.bool ((Der.kind a0) == 6)) rfl (p_eql rfl rfl rfl) ?_
      refine DL.pu 57 (.bool ((Der.kind a0) == 6)) rfl (p_assign rfl rfl) ?_
      refine DL.nil ?_
      obtain ⟨j57_619,h620,h621⟩:=bind_some h617
      have J622 : TT Tryd.prog 45 (PostF (G:=Value) (fun g => g) (fun g M_ => (IntRow M_ .u8 g r)) M w) 79 w (heapOf w) (.code (sub [1,1,0,1,0,1,1,1,1,1,1,1,1,1,1,1] B45) :: .inBlock 0 :: .code (sub [1,1,1] B45) :: []) [(1,ptr b1 0),(3,.slice none 0 0),(57,.bool j57_619)] [(some b1,.cells ((Der.ce a0 a0_3 a0_5 a0_6)) 27 (0,0))]:=by
       by_cases c626 : j57_619 = true
       ·
        have h627:=ite_true c626 h621
        refine TT.cond_true (x:=sub [1,1,0,1,0,1,1,1,1,1,1,1,1,1,1,1,0] B45) (y:=sub [1,1,0,1,0,1,1,1,1,1,1,1,1,1,1,1,1] B45) rfl c626 ?_
        refine TT.rg [0,1,2,3] [kp,kq,kk,kp] rfl rfl ?_
        refine DL.pu 60 (ptr b1 4) rfl (p_fieldAddr ty_f27_4 rfl rfl) ?_
        refine DL.qu 61 (str (Der.text a0)) rfl (f_load (j:=0) ty_a9 rfl rfl rfl rfl) ?_
        refine DL.strBytes (A:=[(some b1,.cells ((Der.ce a0 a0_3 a0_5 a0_6)) 27 (0,0))]) (J:=[]) (fun J628 => ((some b1,.cells ((Der.ce a0 a0_3 a0_5 a0_6)) 27 (0,0)) :: J628)) (Nat.le_refl _) hE.nil (List.append_nil _).symm (fun _ => rfl) (i:=2) rfl (Wn.none rfl) rfl rfl rfl ty_us9 ty_us23 ty_us5 rfl rfl ?_
        intro v628 M628 J628 hE628 hx628 hr_v628
        show DL _ _ _ _ _ _ _ _ _ _ _ _ ((some b1,.cells ((Der.ce a0 a0_3 a0_5 a0_6)) 27 (0,0)) :: J628)
        refine DL.pu 3 (v628) rfl (p_assign rfl rfl) ?_
        refine DL.nil ?_
        refine TT.settle (A:=[(some b1,.cells ((Der.ce a0 a0_3 a0_5 a0_6)) 27 (0,0))]) (J:=J628) hE628 ?_
        intro I629 hE629 hxI629
        refine TT.inBlock ?_
        refine TT.seq (x:=sub [1,1,1,0] B45) (y:=sub [1,1,1,1] B45) ?_
        refine TT.seq (x:=sub [1,1,1,0,0] B45) (y:=sub [1,1,1,0,1] B45) ?_
        refine TT.rg [0] [kp] rfl rfl ?_
        refine DL.pu 5 (.int .i64 0) rfl (p_assign rfl rfl) ?_
        refine DL.nil ?_
        refine TT.block (c:=sub [1,1,1,0,1,0] B45) ?_
        refine TT.loop (c:=sub [1,1,1,0,1,0,0] B45) ?_
        obtain ⟨_,h710,h711⟩:=bind_some h627
        refine TT.weak (ref13_content.L6_ok hr_ref13_Pack a0 a0_3 a0_5 a0_6 b1 v628 hE629 (RowS.mono hr_a0_6 hx628) (((Tree.kids a0).length : Int).toNat + 1)   h710 ( ?_)) (Sub.cons rfl (Sub.cons rfl (Sub.cons rfl (Sub.nil _))))
        refine TT.seq (x:=sub [1,1,1,1,0] B45) (y:=sub [1,1,1,1,1] B45) ?_
        refine TT.rg [0,1] [kp,kp] rfl rfl ?_
        refine DL.mv 78 (v628) rfl rfl rfl ?_
        refine DL.pu 2 (v628) rfl (p_assign rfl rfl) ?_
        refine DL.nil ?_
        obtain rfl:=Option.some.inj h711
        exact retF (rs:=[.tmp 2]) (vs:=[v628]) v628 hE629 Tryd.func45 rfl rfl rfl (res_cons (ResV.tmp rfl) res_nil) hr_v628
       ·
        replace c626:=Bool.eq_false_iff.mpr c626
        have h713:=ite_false c626 h621
        refine TT.cond_false (x:=sub [1,1,0,1,0,1,1,1,1,1,1,1,1,1,1,1,0] B45) (y:=sub [1,1,0,1,0,1,1,1,1,1,1,1,1,1,1,1,1] B45) rfl c626 ?_
        refine TT.skip ?_
        refine TT.inBlock ?_
        refine TT.seq (x:=sub [1,1,1,0] B45) (y:=sub [1,1,1,1] B45) ?_
        refine TT.seq (x:=sub [1,1,1,0,0] B45) (y:=sub [1,1,1,0,1] B45) ?_
        refine TT.rg [0] [kp] rfl rfl ?_
        refine DL.pu 5 (.int .i64 0) rfl (p_assign rfl rfl) ?_
        refine DL.nil ?_
        refine TT.block (c:=sub [1,1,1,0,1,0] B45) ?_
        refine TT.nilOwn (e:=5) ?_
        refine TT.loop (c:=sub [1,1,1,0,1,0,0] B45) ?_
        obtain ⟨z_o714_786,h809,h810⟩:=bind_some h713
        refine TT.weak (ref13_content.L7_ok hr_ref13_Pack a0 a0_3 a0_5 a0_6 b1 hr_a0_6 (((Tree.kids a0).length : Int).toNat + 1) M (heapOf w) hE (Ext.refl _) ([] : List Int) 0 (.slice none 0 0) (#[]) z_o714_786 (IntOwn.nil .u8) h809 (fun M811 I811 hE811 hx811 z_o714_786_v z_o714_786_c ho_z_o714_786 => ?_)) (Sub.cons rfl (Sub.cons rfl (Sub.cons rfl (Sub.nil _))))
        refine TT.seq (x:=sub [1,1,1,1,0] B45) (y:=sub [1,1,1,1,1] B45) ?_
        refine TT.rg [0,1] [kp,kp] rfl rfl ?_
        refine DL.mv 78 (z_o714_786_v) rfl rfl rfl ?_
        refine DL.pu 2 (z_o714_786_v) rfl (p_assign rfl rfl) ?_
        refine DL.nil ?_
        refine TT.freezeAt (j:=0) hE811 rfl ?_
        intro M812 I812 hE812 hx812 hxI812 hb812
        have hr_812 : IntRow M812 .u8 z_o714_786_v z_o714_786:=IntOwn.stays ho_z_o714_786 hb812
        show TT _ _ _ _ _ _ _ _ [(some b1,.cells ((Der.ce a0 a0_3 a0_5 a0_6)) 27 (0,0))]
        obtain rfl:=Option.some.inj h810
        exact retF (rs:=[.tmp 2]) (vs:=[z_o714_786_v]) z_o714_786_v hE812 Tryd.func45 rfl rfl rfl (res_cons (ResV.tmp rfl) res_nil) hr_812
      by_cases c618 : ((Der.kind a0) == 6) = true
      ·
       have h624:=ite_true c618 h620
       refine TT.cond_true (x:=sub [1,1,0,1,0,1,1,1,1,1,1,1,1,1,1,0,1,0] B45) (y:=sub [1,1,0,1,0,1,1,1,1,1,1,1,1,1,1,0,1,1] B45) rfl c618 ?_
       refine TT.skip ?_
       obtain rfl:=Option.some.inj h624
       exact TT.weak (J622 ) (Sub.cons rfl (Sub.cons rfl (Sub.cons rfl (Sub.nil _))))
      ·
       replace c618:=Bool.eq_false_iff.mpr c618
       have h625:=ite_false c618 h620
       refine TT.cond_false (x:=sub [1,1,0,1,0,1,1,1,1,1,1,1,1,1,1,0,1,0] B45) (y:=sub [1,1,0,1,0,1,1,1,1,1,1,1,1,1,1,0,1,1] B45) rfl c618 ?_
       refine TT.rg [0,1] [kp,kp] rfl rfl ?_
       refine DL.pu 59 (.bool ((Der.kind a0) == 10)) rfl (p_eql rfl rfl rfl) ?_
       refine DL.pu 57 (.bool ((Der.kind a0) == 10)) rfl (p_assign rfl rfl) ?_
       refine DL.nil ?_
       obtain rfl:=Option.some.inj h625
       exact TT.weak (J622 ) (Sub.cons rfl (Sub.cons rfl (Sub.cons rfl (Sub.nil _))))

/-! ### escutcheon/escutcheonref13.Pack: function 32 -/
noncomputable def B32 : Code:=bodyOf Tryd.f32
def ref13_Pack.F (r_ref13_Pack : Der → Option ((List Int))) (a0 : Der) : Option ((List Int)):=(ref13_content.f r_ref13_Pack a0).bind fun t2 => (ref13_tag.f a0).bind fun t7 => (if (decide ((t2.length : Int) < 128)) = true then (req ([IntKind.u8.wrap t7].length + [IntKind.u8.wrap (t2.length : Int)].length ≤ 1099511627776) (some ([IntKind.u8.wrap t7] ++ [IntKind.u8.wrap (t2.length : Int)]))) else ((if (decide ((t2.length : Int) < 256)) = true then (req ([IntKind.u8.wrap t7].length + [129,IntKind.u8.wrap (t2.length : Int)].length ≤ 1099511627776) (some ([IntKind.u8.wrap t7] ++ [129,IntKind.u8.wrap (t2.length : Int)]))) else (nm (IntKind.i64.wrap (Int.tdiv (t2.length : Int) 256)) fun t38 => nm (IntKind.u8.wrap (Int.tmod (t2.length : Int) 256)) fun t41 => req ([IntKind.u8.wrap t7].length + [130,IntKind.u8.wrap (Int.tmod t38 256),t41].length ≤ 1099511627776) (some ([IntKind.u8.wrap t7] ++ [130,IntKind.u8.wrap (Int.tmod t38 256),t41])))).bind fun j_o10_26 => some j_o10_26)).bind fun j_o10_13 => req (j_o10_13.length + t2.length ≤ 1099511627776) (some (j_o10_13 ++ t2))
set_option maxRecDepth 20000 in
theorem ref13_Pack.okF {r_ref13_Pack : Der → Option ((List Int))} (hr_ref13_Pack : ref13_Pack.Rec r_ref13_Pack) {a0 : Der} {a0_3 : Value} {a0_5 : Value} {a0_6 : Value} {r : List Int} (h : ref13_Pack.F r_ref13_Pack a0 = some r) {M : Mem} (w : World) (hM : Ext M (heapOf w)) (hr_a0_3 : IntRow M .u8 a0_3 (Der.bytes a0)) (hr_a0_5 : IntRow M .u64 a0_5 (Der.arcs a0)) (hr_a0_6 : RowS ShDer M a0_6 (Tree.kids a0)) : Calls Tryd.prog 32 #[.agg (Der.ce a0 a0_3 a0_5 a0_6)] w (PostF (G:=Value) (fun g => g) (fun g M_ => (IntRow M_ .u8 g r)) M w):=by
 unfold ref13_Pack.F at h
 have hE:=Env.start hM
 refine calls_of_TT (N:=41) (S:=[(0,.agg (Der.ce a0 a0_3 a0_5 a0_6))]) (c:=B32) Tryd.func32 rfl rfl rfl (by simp) ?_
 show TT _ _ _ _ _ _ [.code (sub [] B32)] _ _
 refine TT.seq (x:=sub [0] B32) (y:=sub [1] B32) ?_
 refine TT.rg [0,1] [(.alloc,none),kp] rfl rfl ?_
 refine DL.new (ob:=.cells ((Der.ce a0 a0_3 a0_5 a0_6)) 27) (mk:=fun b => ptr b 0) (i:=0) rfl (Wn.none rfl) rfl rfl rfl (f_box (v:=.agg (Der.ce a0 a0_3 a0_5 a0_6)) rfl rfl) ?_
 intro b1 hb1
 refine DL.pu 2 (.slice none 0 0) rfl (p_assign rfl rfl) ?_
 refine DL.nil ?_
 refine TT.seq (x:=sub [1,0] B32) (y:=sub [1,1] B32) ?_
 refine TT.rg [0,1,2] [kq,kk,kp] rfl rfl ?_
 refine DL.qu 6 (.agg (Der.ce a0 a0_3 a0_5 a0_6)) rfl (f_loadA (j:=0) ty_a27 ty_s27 rfl rfl rfl rfl) ?_
 obtain ⟨t2,h3,h4⟩:=bind_some h
 refine DL.callF (G:=Value) (u:=fun g => g) (Q:=fun g M_ => (IntRow M_ .u8 g t2)) (A:=[(some b1,.cells ((Der.ce a0 a0_3 a0_5 a0_6)) 27 (0,0))]) (J:=[]) (fun J5 => ((some b1,.cells ((Der.ce a0 a0_3 a0_5 a0_6)) 27 (0,0)) :: J5)) (Nat.le_refl _) hE.nil (List.append_nil _).symm (fun _ => rfl) (by simp) (i:=1) rfl (Wn.none rfl) rfl rfl rfl rfl rfl rfl (args_val (vs:=[.agg (Der.ce a0 a0_3 a0_5 a0_6)]) rfl) (fun w => enter45 _ w) (fun w hc hI => ref13_content.ok hr_ref13_Pack h3 (M:=M) w hI hr_a0_3 hr_a0_5 hr_a0_6) ?_
 rintro t2_v M5 J5 hE5 hx5 hr_t2
 show DL _ _ _ _ _ _ _ _ _ _ _ _ ((some b1,.cells ((Der.ce a0 a0_3 a0_5 a0_6)) 27 (0,0)) :: J5)
 refine DL.pu 3 (t2_v) rfl (p_assign rfl rfl) ?_
 refine DL.nil ?_
 refine TT.settle (A:=[(some b1,.cells ((Der.ce a0 a0_3 a0_5 a0_6)) 27 (0,0))]) (J:=J5) hE5 ?_
 intro I6 hE6 hxI6
 refine TT.seq (x:=sub [1,1,0] B32) (y:=sub [1,1,1] B32) ?_
 refine TT.rg [0,1,2] [kp,kp,kp] rfl rfl ?_
 refine DL.mv 8 (t2_v) rfl rfl rfl ?_
 refine DL.pu 9 (.int .i64 (t2.length : Int)) rfl (p_slLen ty_u23 (RowV.sl hr_t2) rfl rfl) ?_
 refine DL.pu 4 (.int .i64 (t2.length : Int)) rfl (p_assign rfl rfl) ?_
 refine DL.nil ?_
 refine TT.seq (x:=sub [1,1,1,0] B32) (y:=sub [1,1,1,1] B32) ?_
 refine TT.rg [0,1,2,3,4] [kq,kq,kp,(.alloc,none),kp] rfl rfl ?_
 refine DL.qu 10 (.agg (Der.ce a0 a0_3 a0_5 a0_6)) rfl (f_loadA (j:=0) ty_a27 ty_s27 rfl rfl rfl rfl) ?_
 obtain ⟨t7,h8,h9⟩:=bind_some h4
 refine DL.qu 11 (.int .i64 t7) rfl (f_callR rfl rfl (args_val (vs:=[.agg (Der.ce a0 a0_3 a0_5 a0_6)]) rfl) (fun w => enter46 _ w) (fun w hc => ref13_tag.val h8 (M:=M5) w (hE6.ext hc) (IntRow.mono hr_a0_3 hx5) (IntRow.mono hr_a0_5 hx5) (RowS.mono hr_a0_6 hx5))) ?_
 refine DL.pu 12 (.int .u8 (IntKind.u8.wrap t7)) rfl (p_conv ty_u3 ty_u5 ⟨_,rfl⟩ rfl rfl) ?_
 refine DL.newSl (zs:=[IntKind.u8.wrap t7]) (n:=1) rfl (by decide) (i:=3) rfl (Wn.none rfl) rfl rfl rfl (f_buildSl (n:=1) (zs:=[IntKind.u8.wrap t7]) (vs:=[(0,.int .u8 (IntKind.u8.wrap t7))]) elem23 rfl rfl (by kernel_rfl) rfl (args_val2 rfl)) ?_
 intro s11_v s11_c ho_s11
 refine DL.pu 5 (s11_v) rfl (p_assign rfl rfl) ?_
 refine DL.nil ?_
 refine TT.seq (x:=sub [1,1,1,1,0] B32) (y:=sub [1,1,1,1,1] B32) ?_
 refine TT.seq (x:=sub [1,1,1,1,0,0] B32) (y:=sub [1,1,1,1,0,1] B32) ?_
 refine TT.rg [0,1] [kp,kp] rfl rfl ?_
 refine DL.mv 14 (.int .i64 (t2.length : Int)) rfl rfl rfl ?_
 refine DL.pu 15 (.bool (decide ((t2.length : Int) < 128))) rfl (p_lss rfl rfl rfl) ?_
 refine DL.nil ?_
 obtain ⟨j_o10_13,h14,h15⟩:=bind_some h9
 have J16 : ∀ (j_o10_13_v : Value),∀ (j_o10_13_c : Array Value),IntOwn .u8 j_o10_13_v j_o10_13_c j_o10_13 → TT Tryd.prog 32 (PostF (G:=Value) (fun g => g) (fun g M_ => (IntRow M_ .u8 g r)) M w) 41 w I6 (.code (sub [1,1,1,1,1] B32) :: []) [(3,t2_v),(5,j_o10_13_v)] [(Value.ownBlock j_o10_13_v,.cells j_o10_13_c 5 (0,0)),(some b1,.cells ((Der.ce a0 a0_3 a0_5 a0_6)) 27 (0,0))]:=by
  intro j_o10_13_v j_o10_13_c ho_j_o10_13
  refine TT.seq (x:=sub [1,1,1,1,1,0] B32) (y:=sub [1,1,1,1,1,1] B32) ?_
  refine TT.rg [0,1,2,3] [kp,kp,kx,kp] rfl rfl ?_
  refine DL.mv 38 (j_o10_13_v) rfl rfl rfl ?_
  refine DL.mv 39 (t2_v) rfl rfl rfl ?_
  obtain ⟨g49,h50⟩:=req_some h15
  refine DL.appendI (fun s51_v s51_c => [(Value.ownBlock s51_v,.cells s51_c 5 (0,0)),(some b1,.cells ((Der.ce a0 a0_3 a0_5 a0_6)) 27 (0,0))]) elem23 (j:=0) rfl ho_j_o10_13 g49 (by decide) (fun w hc => RowV.src (RowV.mono hr_t2 (hE6.ext hc)) (encl_one _ _)) (i:=2) rfl (Wn.none rfl) rfl rfl rfl rfl rfl rfl (fun _ _ => rfl) ?_
  intro s51_v s51_c ho_s51
  show DL _ _ _ _ _ _ _ _ _ _ _ _ [(Value.ownBlock s51_v,.cells s51_c 5 (0,0)),(some b1,.cells ((Der.ce a0 a0_3 a0_5 a0_6)) 27 (0,0))]
  refine DL.pu 2 (s51_v) rfl (p_assign rfl rfl) ?_
  refine DL.nil ?_
  refine TT.freezeAt (j:=0) hE6 rfl ?_
  intro M52 I52 hE52 hx52 hxI52 hb52
  have hr_52 : IntRow M52 .u8 s51_v (j_o10_13 ++ t2):=IntOwn.stays ho_s51 hb52
  show TT _ _ _ _ _ _ _ _ [(some b1,.cells ((Der.ce a0 a0_3 a0_5 a0_6)) 27 (0,0))]
  obtain rfl:=Option.some.inj h50
  exact retF (rs:=[.tmp 2]) (vs:=[s51_v]) s51_v hE52 Tryd.func32 rfl rfl rfl (res_cons (ResV.tmp rfl) res_nil) hr_52
 by_cases c12 : (decide ((t2.length : Int) < 128)) = true
 ·
  have h18:=ite_true c12 h14
  refine TT.cond_true (x:=sub [1,1,1,1,0,1,0] B32) (y:=sub [1,1,1,1,0,1,1] B32) rfl c12 ?_
  refine TT.rg [0,1,2,3,4,5] [kp,kp,kp,(.alloc,none),kx,kp] rfl rfl ?_
  refine DL.mv 16 (s11_v) rfl rfl rfl ?_
  refine DL.mv 17 (.int .i64 (t2.length : Int)) rfl rfl rfl ?_
  refine DL.pu 18 (.int .u8 (IntKind.u8.wrap (t2.length : Int))) rfl (p_conv ty_u3 ty_u5 ⟨_,rfl⟩ rfl rfl) ?_
  refine DL.newSl (zs:=[IntKind.u8.wrap (t2.length : Int)]) (n:=1) rfl (by decide) (i:=3) rfl (Wn.none rfl) rfl rfl rfl (f_buildSl (n:=1) (zs:=[IntKind.u8.wrap (t2.length : Int)]) (vs:=[(0,.int .u8 (IntKind.u8.wrap (t2.length : Int)))]) elem23 rfl rfl (by kernel_rfl) rfl (args_val2 rfl)) ?_
  intro s20_v s20_c ho_s20
  obtain ⟨g21,h22⟩:=req_some h18
  refine DL.appendI (fun s23_v s23_c => [(Value.ownBlock s20_v,.cells s20_c 5 (0,0)),(Value.ownBlock s23_v,.cells s23_c 5 (0,0)),(some b1,.cells ((Der.ce a0 a0_3 a0_5 a0_6)) 27 (0,0))]) elem23 (j:=1) rfl ho_s11 g21 (by decide) (fun w hc => IntOwn.src (i:=0) ho_s20 hc rfl) (i:=4) rfl (Wn.none rfl) rfl rfl rfl rfl rfl rfl (fun _ _ => rfl) ?_
  intro s23_v s23_c ho_s23
  show DL _ _ _ _ _ _ _ _ _ _ _ _ [(Value.ownBlock s20_v,.cells s20_c 5 (0,0)),(Value.ownBlock s23_v,.cells s23_c 5 (0,0)),(some b1,.cells ((Der.ce a0 a0_3 a0_5 a0_6)) 27 (0,0))]
  refine DL.pu 5 (s23_v) rfl (p_assign rfl rfl) ?_
  refine DL.nil ?_
  obtain rfl:=Option.some.inj h22
  exact TT.pick [1,2] (by decide) (TT.weak (J16 s23_v s23_c ho_s23) (Sub.cons rfl (Sub.cons rfl (Sub.nil _))))
 ·
  replace c12:=Bool.eq_false_iff.mpr c12
  have h24:=ite_false c12 h14
  refine TT.cond_false (x:=sub [1,1,1,1,0,1,0] B32) (y:=sub [1,1,1,1,0,1,1] B32) rfl c12 ?_
  refine TT.seq (x:=sub [1,1,1,1,0,1,1,0] B32) (y:=sub [1,1,1,1,0,1,1,1] B32) ?_
  refine TT.rg [0,1] [kp,kp] rfl rfl ?_
  refine DL.mv 21 (.int .i64 (t2.length : Int)) rfl rfl rfl ?_
  refine DL.pu 22 (.bool (decide ((t2.length : Int) < 256))) rfl (p_lss rfl rfl rfl) ?_
  refine DL.nil ?_
  obtain ⟨j_o10_26,h27,h28⟩:=bind_some h24
  have J29 : ∀ (j_o10_26_v : Value),∀ (j_o10_26_c : Array Value),IntOwn .u8 j_o10_26_v j_o10_26_c j_o10_26 → TT Tryd.prog 32 (PostF (G:=Value) (fun g => g) (fun g M_ => (IntRow M_ .u8 g r)) M w) 41 w I6 ((.code (sub [1,1,1,1,1] B32) :: [])) [(3,t2_v),(5,j_o10_26_v)] [(Value.ownBlock j_o10_26_v,.cells j_o10_26_c 5 (0,0)),(some b1,.cells ((Der.ce a0 a0_3 a0_5 a0_6)) 27 (0,0))]:=by
   intro j_o10_26_v j_o10_26_c ho_j_o10_26
   obtain rfl:=Option.some.inj h28
   exact TT.weak (J16 j_o10_26_v j_o10_26_c ho_j_o10_26) (Sub.cons rfl (Sub.cons rfl (Sub.nil _)))
  by_cases c25 : (decide ((t2.length : Int) < 256)) = true
  ·
   have h31:=ite_true c25 h27
   refine TT.cond_true (x:=sub [1,1,1,1,0,1,1,1,0] B32) (y:=sub [1,1,1,1,0,1,1,1,1] B32) rfl c25 ?_
   refine TT.rg [0,1,2,3,4,5] [kp,kp,kp,(.alloc,none),kx,kp] rfl rfl ?_
   refine DL.mv 23 (s11_v) rfl rfl rfl ?_
   refine DL.mv 24 (.int .i64 (t2.length : Int)) rfl rfl rfl ?_
   refine DL.pu 25 (.int .u8 (IntKind.u8.wrap (t2.length : Int))) rfl (p_conv ty_u3 ty_u5 ⟨_,rfl⟩ rfl rfl) ?_
   refine DL.newSl (zs:=[129,IntKind.u8.wrap (t2.length : Int)]) (n:=2) rfl (by decide) (i:=3) rfl (Wn.none rfl) rfl rfl rfl (f_buildSl (n:=2) (zs:=[129,IntKind.u8.wrap (t2.length : Int)]) (vs:=[(0,.int .u8 129),(1,.int .u8 (IntKind.u8.wrap (t2.length : Int)))]) elem23 rfl rfl (by kernel_rfl) rfl (args_val2 rfl)) ?_
   intro s33_v s33_c ho_s33
   obtain ⟨g34,h35⟩:=req_some h31
   refine DL.appendI (fun s36_v s36_c => [(Value.ownBlock s33_v,.cells s33_c 5 (0,0)),(Value.ownBlock s36_v,.cells s36_c 5 (0,0)),(some b1,.cells ((Der.ce a0 a0_3 a0_5 a0_6)) 27 (0,0))]) elem23 (j:=1) rfl ho_s11 g34 (by decide) (fun w hc => IntOwn.src (i:=0) ho_s33 hc rfl) (i:=4) rfl (Wn.none rfl) rfl rfl rfl rfl rfl rfl (fun _ _ => rfl) ?_
   intro s36_v s36_c ho_s36
   show DL _ _ _ _ _ _ _ _ _ _ _ _ [(Value.ownBlock s33_v,.cells s33_c 5 (0,0)),(Value.ownBlock s36_v,.cells s36_c 5 (0,0)),(some b1,.cells ((Der.ce a0 a0_3 a0_5 a0_6)) 27 (0,0))]
   refine DL.pu 5 (s36_v) rfl (p_assign rfl rfl) ?_
   refine DL.nil ?_
   obtain rfl:=Option.some.inj h35
   exact TT.pick [1,2] (by decide) (TT.weak (J29 s36_v s36_c ho_s36) (Sub.cons rfl (Sub.cons rfl (Sub.nil _))))
  ·
   replace c25:=Bool.eq_false_iff.mpr c25
   have h37:=ite_false c25 h27
   refine TT.cond_false (x:=sub [1,1,1,1,0,1,1,1,0] B32) (y:=sub [1,1,1,1,0,1,1,1,1] B32) rfl c25 ?_
   refine TT.rg [0,1,2,3,4,5,6,7,8,9,10] [kp,kp,kp,kp,kp,kp,kp,kp,(.alloc,none),kx,kp] rfl rfl ?_
   refine DL.mv 28 (s11_v) rfl rfl rfl ?_
   refine DL.mv 29 (.int .i64 (t2.length : Int)) rfl rfl rfl ?_
   obtain ⟨t38,e39,h40⟩:=nm_some h37
   refine DL.pu 30 (.int .i64 t38) rfl (by rw [e39]; exact p_quo (by decide) rfl rfl rfl) ?_
   refine DL.pu 31 (.int .i64 (Int.tmod t38 256)) rfl (p_rem (by decide) rfl rfl rfl) ?_
   refine DL.pu 32 (.int .u8 (IntKind.u8.wrap (Int.tmod t38 256))) rfl (p_conv ty_u3 ty_u5 ⟨_,rfl⟩ rfl rfl) ?_
   refine DL.mv 33 (.int .i64 (t2.length : Int)) rfl rfl rfl ?_
   refine DL.pu 34 (.int .i64 (Int.tmod (t2.length : Int) 256)) rfl (p_rem (by decide) rfl rfl rfl) ?_
   obtain ⟨t41,e42,h43⟩:=nm_some h40
   refine DL.pu 35 (.int .u8 t41) rfl (by rw [e42]; exact p_conv ty_u3 ty_u5 ⟨_,rfl⟩ rfl rfl) ?_
   refine DL.newSl (zs:=[130,IntKind.u8.wrap (Int.tmod t38 256),t41]) (n:=3) rfl (by decide) (i:=8) rfl (Wn.none rfl) rfl rfl rfl (f_buildSl (n:=3) (zs:=[130,IntKind.u8.wrap (Int.tmod t38 256),t41]) (vs:=[(0,.int .u8 130),(1,.int .u8 (IntKind.u8.wrap (Int.tmod t38 256))),(2,.int .u8 t41)]) elem23 rfl rfl (by kernel_rfl) rfl (args_val2 rfl)) ?_
   intro s45_v s45_c ho_s45
   obtain ⟨g46,h47⟩:=req_some h43
   refine DL.appendI (fun s48_v s48_c => [(Value.ownBlock s45_v,.cells s45_c 5 (0,0)),(Value.ownBlock s48_v,.cells s48_c 5 (0,0)),(some b1,.cells ((Der.ce a0 a0_3 a0_5 a0_6)) 27 (0,0))]) elem23 (j:=1) rfl ho_s11 g46 (by decide) (fun w hc => IntOwn.src (i:=0) ho_s45 hc rfl) (i:=9) rfl (Wn.none rfl) rfl rfl rfl rfl rfl rfl (fun _ _ => rfl) ?_
   intro s48_v s48_c ho_s48
   show DL _ _ _ _ _ _ _ _ _ _ _ _ [(Value.ownBlock s45_v,.cells s45_c 5 (0,0)),(Value.ownBlock s48_v,.cells s48_c 5 (0,0)),(some b1,.cells ((Der.ce a0 a0_3 a0_5 a0_6)) 27 (0,0))]
   refine DL.pu 5 (s48_v) rfl (p_assign rfl rfl) ?_
   refine DL.nil ?_
   obtain rfl:=Option.some.inj h47
   exact TT.pick [1,2] (by decide) (TT.weak (J29 s48_v s48_c ho_s48) (Sub.cons rfl (Sub.cons rfl (Sub.nil _))))
def ref13_Pack.f : Nat → Der → Option ((List Int))
 | 0,_ => none
 | k + 1,a0 => ref13_Pack.F (ref13_Pack.f k) a0
theorem ref13_Pack.rec : ∀ k,ref13_Pack.Rec (ref13_Pack.f k):=by
 intro k
 induction k with
 | zero => intro _ _ _ _ _ h; simp [ref13_Pack.f] at h
 | succ k ih => intro a0 a0_3 a0_5 a0_6 r h M w hM hr_a0_3 hr_a0_5 hr_a0_6; exact ref13_Pack.okF ih h w hM hr_a0_3 hr_a0_5 hr_a0_6
theorem ref13_Pack.ok {k : Nat} {a0 : Der} {a0_3 : Value} {a0_5 : Value} {a0_6 : Value} {r : List Int} (h : ref13_Pack.f k a0 = some r) {M : Mem} (w : World) (hM : Ext M (heapOf w)) (hr_a0_3 : IntRow M .u8 a0_3 (Der.bytes a0)) (hr_a0_5 : IntRow M .u64 a0_5 (Der.arcs a0)) (hr_a0_6 : RowS ShDer M a0_6 (Tree.kids a0)) : Calls Tryd.prog 32 #[.agg (Der.ce a0 a0_3 a0_5 a0_6)] w (PostF (G:=Value) (fun g => g) (fun g M_ => (IntRow M_ .u8 g r)) M w) :=
 ref13_Pack.rec k h w hM hr_a0_3 hr_a0_5 hr_a0_6

/-! ### escutcheon/der.Bytes: function 12 -/
noncomputable def B12 : Code:=bodyOf Tryd.f12
def der_Bytes.f (a0 : Der) : Option ((List Int) × Int):=(der_May.f a0).bind fun t2 => if (!t2) = true then (some (([] : List Int),2)) else ((der_pack.f (Der.fuel a0) a0).bind fun t8 => if (decide (65000 < (t8.length : Int))) = true then (some (([] : List Int),3)) else (some (t8,0)))
set_option maxRecDepth 20000 in
theorem der_Bytes.ok {a0 : Der} {a0_3 : Value} {a0_5 : Value} {a0_6 : Value} {r_0 : List Int} {r_1 : Int} (h : der_Bytes.f a0 = some (r_0,r_1)) {M : Mem} (w : World) (hM : Ext M (heapOf w)) (hG : Glob M) (hr_a0_3 : IntRow M .u8 a0_3 (Der.bytes a0)) (hr_a0_5 : IntRow M .u64 a0_5 (Der.arcs a0)) (hr_a0_6 : RowS ShDer M a0_6 (Tree.kids a0)) : Calls Tryd.prog 12 #[.agg (Der.ce a0 a0_3 a0_5 a0_6)] w (PostF (G:=Value) (fun g => .tuple #[g,.int .i64 r_1]) (fun g M_ => (IntRow M_ .u8 g r_0)) M w):=by
 unfold der_Bytes.f at h
 have hE:=Env.start hM
 refine calls_of_TT (N:=14) (S:=[(0,.agg (Der.ce a0 a0_3 a0_5 a0_6))]) (c:=B12) Tryd.func12 rfl rfl rfl (by simp) ?_
 show TT _ _ _ _ _ _ [.code (sub [] B12)] _ _
 refine TT.seq (x:=sub [0] B12) (y:=sub [1] B12) ?_
 refine TT.rg [0,1,2] [(.alloc,none),kp,kp] rfl rfl ?_
 refine DL.new (ob:=.cells ((Der.ce a0 a0_3 a0_5 a0_6)) 27) (mk:=fun b => ptr b 0) (i:=0) rfl (Wn.none rfl) rfl rfl rfl (f_box (v:=.agg (Der.ce a0 a0_3 a0_5 a0_6)) rfl rfl) ?_
 intro b1 hb1
 refine DL.pu 2 (.slice none 0 0) rfl (p_assign rfl rfl) ?_
 refine DL.pu 3 (.int .i64 0) rfl (p_assign rfl rfl) ?_
 refine DL.nil ?_
 refine TT.seq (x:=sub [1,0] B12) (y:=sub [1,1] B12) ?_
 refine TT.seq (x:=sub [1,0,0] B12) (y:=sub [1,0,1] B12) ?_
 refine TT.rg [0,1,2] [kq,kq,kp] rfl rfl ?_
 refine DL.qu 5 (.agg (Der.ce a0 a0_3 a0_5 a0_6)) rfl (f_loadA (j:=0) ty_a27 ty_s27 rfl rfl rfl rfl) ?_
 obtain ⟨t2,h3,h4⟩:=bind_some h
 refine DL.qu 6 (.bool t2) rfl (f_callR rfl rfl (args_val (vs:=[.agg (Der.ce a0 a0_3 a0_5 a0_6)]) rfl) (fun w => enter14 _ w) (fun w hc => der_May.val h3 (M:=M) w (hE.ext hc) hG hr_a0_3 hr_a0_5 hr_a0_6)) ?_
 refine DL.pu 7 (.bool (!t2)) rfl (p_not rfl rfl) ?_
 refine DL.nil ?_
 by_cases c5 : (!t2) = true
 ·
  have h6:=ite_true c5 h4
  refine TT.cond_true (x:=sub [1,0,1,0] B12) (y:=sub [1,0,1,1] B12) rfl c5 ?_
  refine TT.seq (x:=sub [1,0,1,0,0] B12) (y:=sub [1,0,1,0,1] B12) ?_
  refine TT.rg [0,1] [kp,kp] rfl rfl ?_
  refine DL.pu 2 (.slice none 0 0) rfl (p_assign rfl rfl) ?_
  refine DL.pu 3 (.int .i64 2) rfl (p_assign rfl rfl) ?_
  refine DL.nil ?_
  simp only [Option.some.injEq,Prod.mk.injEq] at h6
  obtain ⟨rfl,rfl⟩:=h6
  exact retF (rs:=[.tmp 2,.tmp 3]) (vs:=[(.slice none 0 0),.int .i64 2]) (.slice none 0 0) hE Tryd.func12 rfl rfl rfl (res_cons (ResV.tmp rfl) (res_cons (ResV.tmp rfl) res_nil)) (IntRow.nil .u8 M)
 ·
  replace c5:=Bool.eq_false_iff.mpr c5
  have h7:=ite_false c5 h4
  refine TT.cond_false (x:=sub [1,0,1,0] B12) (y:=sub [1,0,1,1] B12) rfl c5 ?_
  refine TT.skip ?_
  refine TT.seq (x:=sub [1,1,0] B12) (y:=sub [1,1,1] B12) ?_
  refine TT.rg [0,1,2] [kq,kk,kp] rfl rfl ?_
  refine DL.qu 8 (.agg (Der.ce a0 a0_3 a0_5 a0_6)) rfl (f_loadA (j:=0) ty_a27 ty_s27 rfl rfl rfl rfl) ?_
  obtain ⟨t8,h9,h10⟩:=bind_some h7
  refine DL.callF (G:=Value) (u:=fun g => g) (Q:=fun g M_ => (IntRow M_ .u8 g t8)) (A:=[(some b1,.cells ((Der.ce a0 a0_3 a0_5 a0_6)) 27 (0,0))]) (J:=[]) (fun J11 => ((some b1,.cells ((Der.ce a0 a0_3 a0_5 a0_6)) 27 (0,0)) :: J11)) (Nat.le_refl _) hE.nil (List.append_nil _).symm (fun _ => rfl) (by simp) (i:=1) rfl (Wn.none rfl) rfl rfl rfl rfl rfl rfl (args_val (vs:=[.agg (Der.ce a0 a0_3 a0_5 a0_6)]) rfl) (fun w => enter31 _ w) (fun w hc hI => der_pack.ok h9 (M:=M) w hI hr_a0_3 hr_a0_5 hr_a0_6) ?_
  rintro t8_v M11 J11 hE11 hx11 hr_t8
  show DL _ _ _ _ _ _ _ _ _ _ _ _ ((some b1,.cells ((Der.ce a0 a0_3 a0_5 a0_6)) 27 (0,0)) :: J11)
  refine DL.pu 4 (t8_v) rfl (p_assign rfl rfl) ?_
  refine DL.nil ?_
  refine TT.settle (A:=[(some b1,.cells ((Der.ce a0 a0_3 a0_5 a0_6)) 27 (0,0))]) (J:=J11) hE11 ?_
  intro I12 hE12 hxI12
  refine TT.seq (x:=sub [1,1,1,0] B12) (y:=sub [1,1,1,1] B12) ?_
  refine TT.seq (x:=sub [1,1,1,0,0] B12) (y:=sub [1,1,1,0,1] B12) ?_
  refine TT.rg [0,1,2] [kp,kp,kp] rfl rfl ?_
  refine DL.mv 10 (t8_v) rfl rfl rfl ?_
  refine DL.pu 11 (.int .i64 (t8.length : Int)) rfl (p_slLen ty_u23 (RowV.sl hr_t8) rfl rfl) ?_
  refine DL.pu 12 (.bool (decide (65000 < (t8.length : Int)))) rfl (p_gtr rfl rfl rfl) ?_
  refine DL.nil ?_
  by_cases c13 : (decide (65000 < (t8.length : Int))) = true
  ·
   have h14:=ite_true c13 h10
   refine TT.cond_true (x:=sub [1,1,1,0,1,0] B12) (y:=sub [1,1,1,0,1,1] B12) rfl c13 ?_
   refine TT.seq (x:=sub [1,1,1,0,1,0,0] B12) (y:=sub [1,1,1,0,1,0,1] B12) ?_
   refine TT.rg [0,1] [kp,kp] rfl rfl ?_
   refine DL.pu 2 (.slice none 0 0) rfl (p_assign rfl rfl) ?_
   refine DL.pu 3 (.int .i64 3) rfl (p_assign rfl rfl) ?_
   refine DL.nil ?_
   simp only [Option.some.injEq,Prod.mk.injEq] at h14
   obtain ⟨rfl,rfl⟩:=h14
   exact retF (rs:=[.tmp 2,.tmp 3]) (vs:=[(.slice none 0 0),.int .i64 3]) (.slice none 0 0) hE12 Tryd.func12 rfl rfl rfl (res_cons (ResV.tmp rfl) (res_cons (ResV.tmp rfl) res_nil)) (IntRow.nil .u8 M11)
  ·
   replace c13:=Bool.eq_false_iff.mpr c13
   have h15:=ite_false c13 h10
   refine TT.cond_false (x:=sub [1,1,1,0,1,0] B12) (y:=sub [1,1,1,0,1,1] B12) rfl c13 ?_
   refine TT.skip ?_
   refine TT.seq (x:=sub [1,1,1,1,0] B12) (y:=sub [1,1,1,1,1] B12) ?_
   refine TT.rg [0,1,2] [kp,kp,kp] rfl rfl ?_
   refine DL.mv 13 (t8_v) rfl rfl rfl ?_
   refine DL.pu 2 (t8_v) rfl (p_assign rfl rfl) ?_
   refine DL.pu 3 (.int .i64 0) rfl (p_assign rfl rfl) ?_
   refine DL.nil ?_
   simp only [Option.some.injEq,Prod.mk.injEq] at h15
   obtain ⟨rfl,rfl⟩:=h15
   exact retF (rs:=[.tmp 2,.tmp 3]) (vs:=[t8_v,.int .i64 0]) t8_v hE12 Tryd.func12 rfl rfl rfl (res_cons (ResV.tmp rfl) (res_cons (ResV.tmp rfl) res_nil)) hr_t8

/-! ### escutcheon/escutcheonref13.Bytes: function 13 -/
noncomputable def B13 : Code:=bodyOf Tryd.f13
def ref13_Bytes.f (a0 : Der) : Option ((List Int) × Int):=(ref13_May.f ((12 : Int).toNat + 1) a0 12).bind fun t2 => if (!t2) = true then (some (([] : List Int),2)) else ((ref13_Pack.f (Der.fuel a0) a0).bind fun t8 => if (decide (65000 < (t8.length : Int))) = true then (some (([] : List Int),3)) else (some (t8,0)))
set_option maxRecDepth 20000 in
theorem ref13_Bytes.ok {a0 : Der} {a0_3 : Value} {a0_5 : Value} {a0_6 : Value} {r_0 : List Int} {r_1 : Int} (h : ref13_Bytes.f a0 = some (r_0,r_1)) {M : Mem} (w : World) (hM : Ext M (heapOf w)) (hG : Glob M) (hr_a0_3 : IntRow M .u8 a0_3 (Der.bytes a0)) (hr_a0_5 : IntRow M .u64 a0_5 (Der.arcs a0)) (hr_a0_6 : RowS ShDer M a0_6 (Tree.kids a0)) : Calls Tryd.prog 13 #[.agg (Der.ce a0 a0_3 a0_5 a0_6)] w (PostF (G:=Value) (fun g => .tuple #[g,.int .i64 r_1]) (fun g M_ => (IntRow M_ .u8 g r_0)) M w):=by
 unfold ref13_Bytes.f at h
 have hE:=Env.start hM
 refine calls_of_TT (N:=14) (S:=[(0,.agg (Der.ce a0 a0_3 a0_5 a0_6))]) (c:=B13) Tryd.func13 rfl rfl rfl (by simp) ?_
 show TT _ _ _ _ _ _ [.code (sub [] B13)] _ _
 refine TT.seq (x:=sub [0] B13) (y:=sub [1] B13) ?_
 refine TT.rg [0,1,2] [(.alloc,none),kp,kp] rfl rfl ?_
 refine DL.new (ob:=.cells ((Der.ce a0 a0_3 a0_5 a0_6)) 27) (mk:=fun b => ptr b 0) (i:=0) rfl (Wn.none rfl) rfl rfl rfl (f_box (v:=.agg (Der.ce a0 a0_3 a0_5 a0_6)) rfl rfl) ?_
 intro b1 hb1
 refine DL.pu 2 (.slice none 0 0) rfl (p_assign rfl rfl) ?_
 refine DL.pu 3 (.int .i64 0) rfl (p_assign rfl rfl) ?_
 refine DL.nil ?_
 refine TT.seq (x:=sub [1,0] B13) (y:=sub [1,1] B13) ?_
 refine TT.seq (x:=sub [1,0,0] B13) (y:=sub [1,0,1] B13) ?_
 refine TT.rg [0,1,2] [kq,kq,kp] rfl rfl ?_
 refine DL.qu 5 (.agg (Der.ce a0 a0_3 a0_5 a0_6)) rfl (f_loadA (j:=0) ty_a27 ty_s27 rfl rfl rfl rfl) ?_
 obtain ⟨t2,h3,h4⟩:=bind_some h
 refine DL.qu 6 (.bool t2) rfl (f_callR rfl rfl (args_val (vs:=[.agg (Der.ce a0 a0_3 a0_5 a0_6),.int .i64 12]) rfl) (fun w => enter15 _ w) (fun w hc => ref13_May.val h3 (M:=M) w (hE.ext hc) hG hr_a0_3 hr_a0_5 hr_a0_6)) ?_
 refine DL.pu 7 (.bool (!t2)) rfl (p_not rfl rfl) ?_
 refine DL.nil ?_
 by_cases c5 : (!t2) = true
 ·
  have h6:=ite_true c5 h4
  refine TT.cond_true (x:=sub [1,0,1,0] B13) (y:=sub [1,0,1,1] B13) rfl c5 ?_
  refine TT.seq (x:=sub [1,0,1,0,0] B13) (y:=sub [1,0,1,0,1] B13) ?_
  refine TT.rg [0,1] [kp,kp] rfl rfl ?_
  refine DL.pu 2 (.slice none 0 0) rfl (p_assign rfl rfl) ?_
  refine DL.pu 3 (.int .i64 2) rfl (p_assign rfl rfl) ?_
  refine DL.nil ?_
  simp only [Option.some.injEq,Prod.mk.injEq] at h6
  obtain ⟨rfl,rfl⟩:=h6
  exact retF (rs:=[.tmp 2,.tmp 3]) (vs:=[(.slice none 0 0),.int .i64 2]) (.slice none 0 0) hE Tryd.func13 rfl rfl rfl (res_cons (ResV.tmp rfl) (res_cons (ResV.tmp rfl) res_nil)) (IntRow.nil .u8 M)
 ·
  replace c5:=Bool.eq_false_iff.mpr c5
  have h7:=ite_false c5 h4
  refine TT.cond_false (x:=sub [1,0,1,0] B13) (y:=sub [1,0,1,1] B13) rfl c5 ?_
  refine TT.skip ?_
  refine TT.seq (x:=sub [1,1,0] B13) (y:=sub [1,1,1] B13) ?_
  refine TT.rg [0,1,2] [kq,kk,kp] rfl rfl ?_
  refine DL.qu 8 (.agg (Der.ce a0 a0_3 a0_5 a0_6)) rfl (f_loadA (j:=0) ty_a27 ty_s27 rfl rfl rfl rfl) ?_
  obtain ⟨t8,h9,h10⟩:=bind_some h7
  refine DL.callF (G:=Value) (u:=fun g => g) (Q:=fun g M_ => (IntRow M_ .u8 g t8)) (A:=[(some b1,.cells ((Der.ce a0 a0_3 a0_5 a0_6)) 27 (0,0))]) (J:=[]) (fun J11 => ((some b1,.cells ((Der.ce a0 a0_3 a0_5 a0_6)) 27 (0,0)) :: J11)) (Nat.le_refl _) hE.nil (List.append_nil _).symm (fun _ => rfl) (by simp) (i:=1) rfl (Wn.none rfl) rfl rfl rfl rfl rfl rfl (args_val (vs:=[.agg (Der.ce a0 a0_3 a0_5 a0_6)]) rfl) (fun w => enter32 _ w) (fun w hc hI => ref13_Pack.ok h9 (M:=M) w hI hr_a0_3 hr_a0_5 hr_a0_6) ?_
  rintro t8_v M11 J11 hE11 hx11 hr_t8
  show DL _ _ _ _ _ _ _ _ _ _ _ _ ((some b1,.cells ((Der.ce a0 a0_3 a0_5 a0_6)) 27 (0,0)) :: J11)
  refine DL.pu 4 (t8_v) rfl (p_assign rfl rfl) ?_
  refine DL.nil ?_
  refine TT.settle (A:=[(some b1,.cells ((Der.ce a0 a0_3 a0_5 a0_6)) 27 (0,0))]) (J:=J11) hE11 ?_
  intro I12 hE12 hxI12
  refine TT.seq (x:=sub [1,1,1,0] B13) (y:=sub [1,1,1,1] B13) ?_
  refine TT.seq (x:=sub [1,1,1,0,0] B13) (y:=sub [1,1,1,0,1] B13) ?_
  refine TT.rg [0,1,2] [kp,kp,kp] rfl rfl ?_
  refine DL.mv 10 (t8_v) rfl rfl rfl ?_
  refine DL.pu 11 (.int .i64 (t8.length : Int)) rfl (p_slLen ty_u23 (RowV.sl hr_t8) rfl rfl) ?_
  refine DL.pu 12 (.bool (decide (65000 < (t8.length : Int)))) rfl (p_gtr rfl rfl rfl) ?_
  refine DL.nil ?_
  by_cases c13 : (decide (65000 < (t8.length : Int))) = true
  ·
   have h14:=ite_true c13 h10
   refine TT.cond_true (x:=sub [1,1,1,0,1,0] B13) (y:=sub [1,1,1,0,1,1] B13) rfl c13 ?_
   refine TT.seq (x:=sub [1,1,1,0,1,0,0] B13) (y:=sub [1,1,1,0,1,0,1] B13) ?_
   refine TT.rg [0,1] [kp,kp] rfl rfl ?_
   refine DL.pu 2 (.slice none 0 0) rfl (p_assign rfl rfl) ?_
   refine DL.pu 3 (.int .i64 3) rfl (p_assign rfl rfl) ?_
   refine DL.nil ?_
   simp only [Option.some.injEq,Prod.mk.injEq] at h14
   obtain ⟨rfl,rfl⟩:=h14
   exact retF (rs:=[.tmp 2,.tmp 3]) (vs:=[(.slice none 0 0),.int .i64 3]) (.slice none 0 0) hE12 Tryd.func13 rfl rfl rfl (res_cons (ResV.tmp rfl) (res_cons (ResV.tmp rfl) res_nil)) (IntRow.nil .u8 M11)
  ·
   replace c13:=Bool.eq_false_iff.mpr c13
   have h15:=ite_false c13 h10
   refine TT.cond_false (x:=sub [1,1,1,0,1,0] B13) (y:=sub [1,1,1,0,1,1] B13) rfl c13 ?_
   refine TT.skip ?_
   refine TT.seq (x:=sub [1,1,1,1,0] B13) (y:=sub [1,1,1,1,1] B13) ?_
   refine TT.rg [0,1,2] [kp,kp,kp] rfl rfl ?_
   refine DL.mv 13 (t8_v) rfl rfl rfl ?_
   refine DL.pu 2 (t8_v) rfl (p_assign rfl rfl) ?_
   refine DL.pu 3 (.int .i64 0) rfl (p_assign rfl rfl) ?_
   refine DL.nil ?_
   simp only [Option.some.injEq,Prod.mk.injEq] at h15
   obtain ⟨rfl,rfl⟩:=h15
   exact retF (rs:=[.tmp 2,.tmp 3]) (vs:=[t8_v,.int .i64 0]) t8_v hE12 Tryd.func13 rfl rfl rfl (res_cons (ResV.tmp rfl) (res_cons (ResV.tmp rfl) res_nil)) hr_t8

/-! ### escutcheon/der.Int: function 21 -/
noncomputable def B21 : Code:=bodyOf Tryd.f21
def der_Int.f (a0 : Int) : Option (Der):=some (Der.mk 2 false a0 ([] : List Int) ([] : List UInt8) ([] : List Int) ([] : List Der))
set_option maxRecDepth 20000 in
theorem der_Int.ok {a0 : Int} {r : Der} (h : der_Int.f a0 = some r) {M : Mem} (w : World) (hM : Ext M (heapOf w)) : Calls Tryd.prog 21 #[.int .i64 a0] w (PostF (G:=Value × Value × Value) (fun g => .agg (Der.ce r (g.1) (g.2.1) (g.2.2))) (fun g M_ => (IntRow M_ .u8 (g.1) (Der.bytes r)) ∧ (IntRow M_ .u64 (g.2.1) (Der.arcs r)) ∧ (RowS ShDer M_ (g.2.2) (Tree.kids r))) M w):=by
 unfold der_Int.f at h
 have hE:=Env.start hM
 refine calls_of_TT (N:=5) (S:=[(0,.int .i64 a0)]) (c:=B21) Tryd.func21 rfl rfl rfl (by simp) ?_
 show TT _ _ _ _ _ _ [.code (sub [] B21)] _ _
 refine TT.seq (x:=sub [0] B21) (y:=sub [1] B21) ?_
 refine TT.rg [0] [(.alloc,none)] rfl rfl ?_
 refine DL.new (ob:=.cells (#[.int .i64 0,.bool false,.int .i64 0,(.slice none 0 0),str ([] : List UInt8),(.slice none 0 0),(.slice none 0 0)]) 27) (mk:=fun b => ptr b 0) (i:=0) rfl (Wn.none rfl) rfl rfl rfl (f_alloc ty_z27 rfl) ?_
 intro b1 hb1
 refine DL.nil ?_
 refine TT.seq (x:=sub [1,0] B21) (y:=sub [1,1] B21) ?_
 refine TT.rg [0,1,2] [kp,kp,(.store,none)] rfl rfl ?_
 refine DL.mv 3 (.int .i64 a0) rfl rfl rfl ?_
 refine DL.pu 4 (.agg #[.int .i64 2,.bool false,.int .i64 a0,(.slice none 0 0),str ([] : List UInt8),(.slice none 0 0),(.slice none 0 0)]) rfl (p_build (vs:=[(0,.int .i64 2),(2,.int .i64 a0)]) (fun w => by kernel_rfl) rfl rfl) ?_
 refine DL.put (H':=[(some b1,.cells (#[.int .i64 2,.bool false,.int .i64 a0,(.slice none 0 0),str ([] : List UInt8),(.slice none 0 0),(.slice none 0 0)]) 27 (0,0))]) (i:=2) rfl (Wn.none rfl) rfl rfl (f_storeA (j:=0) ty_s27 rfl rfl rfl (one_cons trivial (one_cons trivial (one_cons trivial (one_cons (sl_one (RowV.sl (IntRow.nil .u8 M))) (one_cons trivial (one_cons (sl_one (RowV.sl (IntRow.nil .u64 M))) (one_cons (sl_one (RowS.sl (RowS.nil ShDer M))) one_nil))))))) rfl rfl rfl) (keep_none rfl) ?_
 refine DL.nil ?_
 obtain rfl:=Option.some.inj h
 exact retF (rs:=[.cell 2 27]) (vs:=[.agg #[.int .i64 2,.bool false,.int .i64 a0,(.slice none 0 0),str ([] : List UInt8),(.slice none 0 0),(.slice none 0 0)]]) ((.slice none 0 0),(.slice none 0 0),(.slice none 0 0)) hE Tryd.func21 rfl rfl rfl (res_cons (ResV.cell (j:=0) ty_a27 ty_s27 rfl rfl rfl) res_nil) ⟨(IntRow.nil .u8 M),(IntRow.nil .u64 M),(RowS.nil ShDer M)⟩

/-! ### escutcheon/der.Seq: function 22 -/
noncomputable def B22 : Code:=bodyOf Tryd.f22
def der_Seq.f (a0 : List Der) : Option (Der):=(slices_Clone_40.f a0).bind fun t2 => some (Der.mk 7 false 0 ([] : List Int) ([] : List UInt8) ([] : List Int) t2)
set_option maxRecDepth 20000 in
theorem der_Seq.ok {a0 : List Der} {a0_v : Value} {r : Der} (h : der_Seq.f a0 = some r) {M : Mem} (w : World) (hM : Ext M (heapOf w)) (hr_a0 : RowS ShDer M a0_v a0) : Calls Tryd.prog 22 #[a0_v] w (PostF (G:=Value × Value × Value) (fun g => .agg (Der.ce r (g.1) (g.2.1) (g.2.2))) (fun g M_ => (IntRow M_ .u8 (g.1) (Der.bytes r)) ∧ (IntRow M_ .u64 (g.2.1) (Der.arcs r)) ∧ (RowS ShDer M_ (g.2.2) (Tree.kids r))) M w):=by
 unfold der_Seq.f at h
 have hE:=Env.start hM
 refine calls_of_TT (N:=6) (S:=[(0,a0_v)]) (c:=B22) Tryd.func22 rfl rfl rfl (by simp) ?_
 show TT _ _ _ _ _ _ [.code (sub [] B22)] _ _
 refine TT.seq (x:=sub [0] B22) (y:=sub [1] B22) ?_
 refine TT.rg [0] [(.alloc,none)] rfl rfl ?_
 refine DL.new (ob:=.cells (#[.int .i64 0,.bool false,.int .i64 0,(.slice none 0 0),str ([] : List UInt8),(.slice none 0 0),(.slice none 0 0)]) 27) (mk:=fun b => ptr b 0) (i:=0) rfl (Wn.none rfl) rfl rfl rfl (f_alloc ty_z27 rfl) ?_
 intro b1 hb1
 refine DL.nil ?_
 refine TT.seq (x:=sub [1,0] B22) (y:=sub [1,1] B22) ?_
 refine TT.rg [0,1,2,3] [kp,kk,kp,(.store,none)] rfl rfl ?_
 refine DL.mv 3 (a0_v) rfl rfl rfl ?_
 obtain ⟨t2,h3,h4⟩:=bind_some h
 refine DL.callF (G:=Value) (u:=fun g => g) (Q:=fun g M_ => (RowS ShDer M_ g t2)) (A:=[(some b1,.cells (#[.int .i64 0,.bool false,.int .i64 0,(.slice none 0 0),str ([] : List UInt8),(.slice none 0 0),(.slice none 0 0)]) 27 (0,0))]) (J:=[]) (fun J5 => ((some b1,.cells (#[.int .i64 0,.bool false,.int .i64 0,(.slice none 0 0),str ([] : List UInt8),(.slice none 0 0),(.slice none 0 0)]) 27 (0,0)) :: J5)) (Nat.le_refl _) hE.nil (List.append_nil _).symm (fun _ => rfl) (by simp) (i:=1) rfl (Wn.none rfl) rfl rfl rfl rfl rfl rfl (args_val (vs:=[a0_v]) rfl) (fun w => enter40 _ w) (fun w hc hI => slices_Clone_40.ok h3 (M:=M) w hI hr_a0) ?_
 rintro t2_v M5 J5 hE5 hx5 hr_t2
 show DL _ _ _ _ _ _ _ _ _ _ _ _ ((some b1,.cells (#[.int .i64 0,.bool false,.int .i64 0,(.slice none 0 0),str ([] : List UInt8),(.slice none 0 0),(.slice none 0 0)]) 27 (0,0)) :: J5)
 refine DL.pu 5 (.agg #[.int .i64 7,.bool false,.int .i64 0,(.slice none 0 0),str ([] : List UInt8),(.slice none 0 0),t2_v]) rfl (p_build (vs:=[(0,.int .i64 7),(6,t2_v)]) (fun w => by obtain ⟨_,_,e_⟩:=RowS.sl hr_t2; subst e_; kernel_rfl) rfl rfl) ?_
 refine DL.put (H':=((some b1,.cells (#[.int .i64 7,.bool false,.int .i64 0,(.slice none 0 0),str ([] : List UInt8),(.slice none 0 0),t2_v]) 27 (0,0)) :: J5)) (i:=3) rfl (Wn.none rfl) rfl rfl (f_storeA (j:=0) ty_s27 rfl rfl rfl (one_cons trivial (one_cons trivial (one_cons trivial (one_cons (sl_one (RowV.sl (IntRow.nil .u8 M5))) (one_cons trivial (one_cons (sl_one (RowV.sl (IntRow.nil .u64 M5))) (one_cons (sl_one (RowS.sl hr_t2)) one_nil))))))) rfl rfl rfl) (keep_none rfl) ?_
 refine DL.nil ?_
 refine TT.settle (A:=[(some b1,.cells (#[.int .i64 7,.bool false,.int .i64 0,(.slice none 0 0),str ([] : List UInt8),(.slice none 0 0),t2_v]) 27 (0,0))]) (J:=J5) hE5 ?_
 intro I6 hE6 hxI6
 obtain rfl:=Option.some.inj h4
 exact retF (rs:=[.cell 2 27]) (vs:=[.agg #[.int .i64 7,.bool false,.int .i64 0,(.slice none 0 0),str ([] : List UInt8),(.slice none 0 0),t2_v]]) ((.slice none 0 0),(.slice none 0 0),t2_v) hE6 Tryd.func22 rfl rfl rfl (res_cons (ResV.cell (j:=0) ty_a27 ty_s27 rfl rfl rfl) res_nil) ⟨(IntRow.nil .u8 M5),(IntRow.nil .u64 M5),hr_t2⟩

/-! ### escutcheon/der.Octets: function 23 -/
noncomputable def B23 : Code:=bodyOf Tryd.f23
def der_Octets.f (a0 : List Int) : Option (Der):=(slices_Clone_41.f a0).bind fun t2 => some (Der.mk 4 false 0 t2 ([] : List UInt8) ([] : List Int) ([] : List Der))
set_option maxRecDepth 20000 in
theorem der_Octets.ok {a0 : List Int} {a0_v : Value} {r : Der} (h : der_Octets.f a0 = some r) {M : Mem} (w : World) (hM : Ext M (heapOf w)) (hr_a0 : IntRow M .u8 a0_v a0) : Calls Tryd.prog 23 #[a0_v] w (PostF (G:=Value × Value × Value) (fun g => .agg (Der.ce r (g.1) (g.2.1) (g.2.2))) (fun g M_ => (IntRow M_ .u8 (g.1) (Der.bytes r)) ∧ (IntRow M_ .u64 (g.2.1) (Der.arcs r)) ∧ (RowS ShDer M_ (g.2.2) (Tree.kids r))) M w):=by
 unfold der_Octets.f at h
 have hE:=Env.start hM
 refine calls_of_TT (N:=6) (S:=[(0,a0_v)]) (c:=B23) Tryd.func23 rfl rfl rfl (by simp) ?_
 show TT _ _ _ _ _ _ [.code (sub [] B23)] _ _
 refine TT.seq (x:=sub [0] B23) (y:=sub [1] B23) ?_
 refine TT.rg [0] [(.alloc,none)] rfl rfl ?_
 refine DL.new (ob:=.cells (#[.int .i64 0,.bool false,.int .i64 0,(.slice none 0 0),str ([] : List UInt8),(.slice none 0 0),(.slice none 0 0)]) 27) (mk:=fun b => ptr b 0) (i:=0) rfl (Wn.none rfl) rfl rfl rfl (f_alloc ty_z27 rfl) ?_
 intro b1 hb1
 refine DL.nil ?_
 refine TT.seq (x:=sub [1,0] B23) (y:=sub [1,1] B23) ?_
 refine TT.rg [0,1,2,3] [kp,kk,kp,(.store,none)] rfl rfl ?_
 refine DL.mv 3 (a0_v) rfl rfl rfl ?_
 obtain ⟨t2,h3,h4⟩:=bind_some h
 refine DL.callF (G:=Value) (u:=fun g => g) (Q:=fun g M_ => (IntRow M_ .u8 g t2)) (A:=[(some b1,.cells (#[.int .i64 0,.bool false,.int .i64 0,(.slice none 0 0),str ([] : List UInt8),(.slice none 0 0),(.slice none 0 0)]) 27 (0,0))]) (J:=[]) (fun J5 => ((some b1,.cells (#[.int .i64 0,.bool false,.int .i64 0,(.slice none 0 0),str ([] : List UInt8),(.slice none 0 0),(.slice none 0 0)]) 27 (0,0)) :: J5)) (Nat.le_refl _) hE.nil (List.append_nil _).symm (fun _ => rfl) (by simp) (i:=1) rfl (Wn.none rfl) rfl rfl rfl rfl rfl rfl (args_val (vs:=[a0_v]) rfl) (fun w => enter41 _ w) (fun w hc hI => slices_Clone_41.ok h3 (M:=M) w hI hr_a0) ?_
 rintro t2_v M5 J5 hE5 hx5 hr_t2
 show DL _ _ _ _ _ _ _ _ _ _ _ _ ((some b1,.cells (#[.int .i64 0,.bool false,.int .i64 0,(.slice none 0 0),str ([] : List UInt8),(.slice none 0 0),(.slice none 0 0)]) 27 (0,0)) :: J5)
 refine DL.pu 5 (.agg #[.int .i64 4,.bool false,.int .i64 0,t2_v,str ([] : List UInt8),(.slice none 0 0),(.slice none 0 0)]) rfl (p_build (vs:=[(0,.int .i64 4),(3,t2_v)]) (fun w => by obtain ⟨_,_,e_⟩:=RowV.sl hr_t2; subst e_; kernel_rfl) rfl rfl) ?_
 refine DL.put (H':=((some b1,.cells (#[.int .i64 4,.bool false,.int .i64 0,t2_v,str ([] : List UInt8),(.slice none 0 0),(.slice none 0 0)]) 27 (0,0)) :: J5)) (i:=3) rfl (Wn.none rfl) rfl rfl (f_storeA (j:=0) ty_s27 rfl rfl rfl (one_cons trivial (one_cons trivial (one_cons trivial (one_cons (sl_one (RowV.sl hr_t2)) (one_cons trivial (one_cons (sl_one (RowV.sl (IntRow.nil .u64 M5))) (one_cons (sl_one (RowS.sl (RowS.nil ShDer M5))) one_nil))))))) rfl rfl rfl) (keep_none rfl) ?_
 refine DL.nil ?_
 refine TT.settle (A:=[(some b1,.cells (#[.int .i64 4,.bool false,.int .i64 0,t2_v,str ([] : List UInt8),(.slice none 0 0),(.slice none 0 0)]) 27 (0,0))]) (J:=J5) hE5 ?_
 intro I6 hE6 hxI6
 obtain rfl:=Option.some.inj h4
 exact retF (rs:=[.cell 2 27]) (vs:=[.agg #[.int .i64 4,.bool false,.int .i64 0,t2_v,str ([] : List UInt8),(.slice none 0 0),(.slice none 0 0)]]) (t2_v,(.slice none 0 0),(.slice none 0 0)) hE6 Tryd.func23 rfl rfl rfl (res_cons (ResV.cell (j:=0) ty_a27 ty_s27 rfl rfl rfl) res_nil) ⟨hr_t2,(IntRow.nil .u64 M5),(RowS.nil ShDer M5)⟩

/-! ### escutcheon/der.Oid: function 24 -/
noncomputable def B24 : Code:=bodyOf Tryd.f24
def der_Oid.f (a0 : List Int) : Option (Der):=(slices_Clone_42.f a0).bind fun t2 => some (Der.mk 5 false 0 ([] : List Int) ([] : List UInt8) t2 ([] : List Der))
set_option maxRecDepth 20000 in
theorem der_Oid.ok {a0 : List Int} {a0_v : Value} {r : Der} (h : der_Oid.f a0 = some r) {M : Mem} (w : World) (hM : Ext M (heapOf w)) (hr_a0 : IntRow M .u64 a0_v a0) : Calls Tryd.prog 24 #[a0_v] w (PostF (G:=Value × Value × Value) (fun g => .agg (Der.ce r (g.1) (g.2.1) (g.2.2))) (fun g M_ => (IntRow M_ .u8 (g.1) (Der.bytes r)) ∧ (IntRow M_ .u64 (g.2.1) (Der.arcs r)) ∧ (RowS ShDer M_ (g.2.2) (Tree.kids r))) M w):=by
 unfold der_Oid.f at h
 have hE:=Env.start hM
 refine calls_of_TT (N:=6) (S:=[(0,a0_v)]) (c:=B24) Tryd.func24 rfl rfl rfl (by simp) ?_
 show TT _ _ _ _ _ _ [.code (sub [] B24)] _ _
 refine TT.seq (x:=sub [0] B24) (y:=sub [1] B24) ?_
 refine TT.rg [0] [(.alloc,none)] rfl rfl ?_
 refine DL.new (ob:=.cells (#[.int .i64 0,.bool false,.int .i64 0,(.slice none 0 0),str ([] : List UInt8),(.slice none 0 0),(.slice none 0 0)]) 27) (mk:=fun b => ptr b 0) (i:=0) rfl (Wn.none rfl) rfl rfl rfl (f_alloc ty_z27 rfl) ?_
 intro b1 hb1
 refine DL.nil ?_
 refine TT.seq (x:=sub [1,0] B24) (y:=sub [1,1] B24) ?_
 refine TT.rg [0,1,2,3] [kp,kk,kp,(.store,none)] rfl rfl ?_
 refine DL.mv 3 (a0_v) rfl rfl rfl ?_
 obtain ⟨t2,h3,h4⟩:=bind_some h
 refine DL.callF (G:=Value) (u:=fun g => g) (Q:=fun g M_ => (IntRow M_ .u64 g t2)) (A:=[(some b1,.cells (#[.int .i64 0,.bool false,.int .i64 0,(.slice none 0 0),str ([] : List UInt8),(.slice none 0 0),(.slice none 0 0)]) 27 (0,0))]) (J:=[]) (fun J5 => ((some b1,.cells (#[.int .i64 0,.bool false,.int .i64 0,(.slice none 0 0),str ([] : List UInt8),(.slice none 0 0),(.slice none 0 0)]) 27 (0,0)) :: J5)) (Nat.le_refl _) hE.nil (List.append_nil _).symm (fun _ => rfl) (by simp) (i:=1) rfl (Wn.none rfl) rfl rfl rfl rfl rfl rfl (args_val (vs:=[a0_v]) rfl) (fun w => enter42 _ w) (fun w hc hI => slices_Clone_42.ok h3 (M:=M) w hI hr_a0) ?_
 rintro t2_v M5 J5 hE5 hx5 hr_t2
 show DL _ _ _ _ _ _ _ _ _ _ _ _ ((some b1,.cells (#[.int .i64 0,.bool false,.int .i64 0,(.slice none 0 0),str ([] : List UInt8),(.slice none 0 0),(.slice none 0 0)]) 27 (0,0)) :: J5)
 refine DL.pu 5 (.agg #[.int .i64 5,.bool false,.int .i64 0,(.slice none 0 0),str ([] : List UInt8),t2_v,(.slice none 0 0)]) rfl (p_build (vs:=[(0,.int .i64 5),(5,t2_v)]) (fun w => by obtain ⟨_,_,e_⟩:=RowV.sl hr_t2; subst e_; kernel_rfl) rfl rfl) ?_
 refine DL.put (H':=((some b1,.cells (#[.int .i64 5,.bool false,.int .i64 0,(.slice none 0 0),str ([] : List UInt8),t2_v,(.slice none 0 0)]) 27 (0,0)) :: J5)) (i:=3) rfl (Wn.none rfl) rfl rfl (f_storeA (j:=0) ty_s27 rfl rfl rfl (one_cons trivial (one_cons trivial (one_cons trivial (one_cons (sl_one (RowV.sl (IntRow.nil .u8 M5))) (one_cons trivial (one_cons (sl_one (RowV.sl hr_t2)) (one_cons (sl_one (RowS.sl (RowS.nil ShDer M5))) one_nil))))))) rfl rfl rfl) (keep_none rfl) ?_
 refine DL.nil ?_
 refine TT.settle (A:=[(some b1,.cells (#[.int .i64 5,.bool false,.int .i64 0,(.slice none 0 0),str ([] : List UInt8),t2_v,(.slice none 0 0)]) 27 (0,0))]) (J:=J5) hE5 ?_
 intro I6 hE6 hxI6
 obtain rfl:=Option.some.inj h4
 exact retF (rs:=[.cell 2 27]) (vs:=[.agg #[.int .i64 5,.bool false,.int .i64 0,(.slice none 0 0),str ([] : List UInt8),t2_v,(.slice none 0 0)]]) ((.slice none 0 0),t2_v,(.slice none 0 0)) hE6 Tryd.func24 rfl rfl rfl (res_cons (ResV.cell (j:=0) ty_a27 ty_s27 rfl rfl rfl) res_nil) ⟨(IntRow.nil .u8 M5),hr_t2,(RowS.nil ShDer M5)⟩

/-! ### escutcheon/der.Set: function 27 -/
noncomputable def B27 : Code:=bodyOf Tryd.f27
def der_Set.f (a0 : Der) : Option (Der):=some (Der.mk 9 false 0 ([] : List Int) ([] : List UInt8) ([] : List Int) [a0])
set_option maxRecDepth 20000 in
theorem der_Set.ok {a0 : Der} {a0_3 : Value} {a0_5 : Value} {a0_6 : Value} {r : Der} (h : der_Set.f a0 = some r) {M : Mem} (w : World) (hM : Ext M (heapOf w)) (hr_a0_3 : IntRow M .u8 a0_3 (Der.bytes a0)) (hr_a0_5 : IntRow M .u64 a0_5 (Der.arcs a0)) (hr_a0_6 : RowS ShDer M a0_6 (Tree.kids a0)) : Calls Tryd.prog 27 #[.agg (Der.ce a0 a0_3 a0_5 a0_6)] w (PostF (G:=Value × Value × Value) (fun g => .agg (Der.ce r (g.1) (g.2.1) (g.2.2))) (fun g M_ => (IntRow M_ .u8 (g.1) (Der.bytes r)) ∧ (IntRow M_ .u64 (g.2.1) (Der.arcs r)) ∧ (RowS ShDer M_ (g.2.2) (Tree.kids r))) M w):=by
 unfold der_Set.f at h
 have hE:=Env.start hM
 refine calls_of_TT (N:=6) (S:=[(0,.agg (Der.ce a0 a0_3 a0_5 a0_6))]) (c:=B27) Tryd.func27 rfl rfl rfl (by simp) ?_
 show TT _ _ _ _ _ _ [.code (sub [] B27)] _ _
 refine TT.seq (x:=sub [0] B27) (y:=sub [1] B27) ?_
 refine TT.rg [0,1] [(.alloc,none),(.alloc,none)] rfl rfl ?_
 refine DL.new (ob:=.cells ((Der.ce a0 a0_3 a0_5 a0_6)) 27) (mk:=fun b => ptr b 0) (i:=0) rfl (Wn.none rfl) rfl rfl rfl (f_box (v:=.agg (Der.ce a0 a0_3 a0_5 a0_6)) rfl rfl) ?_
 intro b1 hb1
 refine DL.new (ob:=.cells (#[.int .i64 0,.bool false,.int .i64 0,(.slice none 0 0),str ([] : List UInt8),(.slice none 0 0),(.slice none 0 0)]) 27) (mk:=fun b => ptr b 0) (i:=1) rfl (Wn.none rfl) rfl rfl rfl (f_alloc ty_z27 rfl) ?_
 intro b2 hb2
 refine DL.nil ?_
 refine TT.seq (x:=sub [1,0] B27) (y:=sub [1,1] B27) ?_
 refine TT.rg [0,1,2,3] [kq,(.alloc,none),kp,(.store,none)] rfl rfl ?_
 refine DL.qu 3 (.agg (Der.ce a0 a0_3 a0_5 a0_6)) rfl (f_loadA (j:=1) ty_a27 ty_s27 rfl rfl rfl rfl) ?_
 refine DL.newS (M:=M) (s:=ShDer) (zs:=[a0]) (cells:=[.int .i64 (Der.kind a0),.bool (Der.flag a0),.int .i64 (Der.num a0),a0_3,str (Der.text a0),a0_5,a0_6]) (n:=1) rfl (by decide) rfl (fun i x hx => by match i,hx with | 0,hx => cases hx; exact (Der.cl (t:=a0) hr_a0_3 hr_a0_5 hr_a0_6) | k + 1,hx => simp at hx) (i:=1) rfl (Wn.none rfl) rfl rfl rfl (f_buildS (n:=1) (vs:=[(0,.agg (Der.ce a0 a0_3 a0_5 a0_6))]) elem25 rfl rfl (by kernel_rfl) rfl (args_val2 rfl)) ?_
 intro s4_v s4_c ho_s4
 refine DL.pu 5 (.agg #[.int .i64 9,.bool false,.int .i64 0,(.slice none 0 0),str ([] : List UInt8),(.slice none 0 0),s4_v]) rfl (p_build (vs:=[(0,.int .i64 9),(6,s4_v)]) (fun w => by obtain ⟨_,_,e_⟩:=OwnS.sl ho_s4; subst e_; kernel_rfl) rfl rfl) ?_
 refine DL.put (H':=[(Value.ownBlock s4_v,.cells s4_c 27 (0,0)),(some b2,.cells (#[.int .i64 9,.bool false,.int .i64 0,(.slice none 0 0),str ([] : List UInt8),(.slice none 0 0),s4_v]) 27 (0,0)),(some b1,.cells ((Der.ce a0 a0_3 a0_5 a0_6)) 27 (0,0))]) (i:=3) rfl (Wn.none rfl) rfl rfl (f_storeA (j:=1) ty_s27 rfl rfl rfl (one_cons trivial (one_cons trivial (one_cons trivial (one_cons (sl_one (RowV.sl (IntRow.nil .u8 M))) (one_cons trivial (one_cons (sl_one (RowV.sl (IntRow.nil .u64 M))) (one_cons (sl_one (OwnS.sl ho_s4)) one_nil))))))) rfl rfl rfl) (keep_none rfl) ?_
 refine DL.nil ?_
 refine TT.freezeAt (j:=0) hE rfl ?_
 intro M5 I5 hE5 hx5 hxI5 hb5
 have hr_5 : RowS ShDer M5 s4_v [a0]:=OwnS.stays ho_s4 hx5 hb5
 show TT _ _ _ _ _ _ _ _ [(some b2,.cells (#[.int .i64 9,.bool false,.int .i64 0,(.slice none 0 0),str ([] : List UInt8),(.slice none 0 0),s4_v]) 27 (0,0)),(some b1,.cells ((Der.ce a0 a0_3 a0_5 a0_6)) 27 (0,0))]
 obtain rfl:=Option.some.inj h
 exact retF (rs:=[.cell 2 27]) (vs:=[.agg #[.int .i64 9,.bool false,.int .i64 0,(.slice none 0 0),str ([] : List UInt8),(.slice none 0 0),s4_v]]) ((.slice none 0 0),(.slice none 0 0),s4_v) hE5 Tryd.func27 rfl rfl rfl (res_cons (ResV.cell (j:=0) ty_a27 ty_s27 rfl rfl rfl) res_nil) ⟨(IntRow.nil .u8 M5),(IntRow.nil .u64 M5),hr_5⟩

/-! ### escutcheon/der.Tag: function 28 -/
noncomputable def B28 : Code:=bodyOf Tryd.f28
def der_Tag.f (a0 : Int) (a1 : Der) : Option (Der):=some (Der.mk 8 false a0 ([] : List Int) ([] : List UInt8) ([] : List Int) [a1])
set_option maxRecDepth 20000 in
theorem der_Tag.ok {a0 : Int} {a1 : Der} {a1_3 : Value} {a1_5 : Value} {a1_6 : Value} {r : Der} (h : der_Tag.f a0 a1 = some r) {M : Mem} (w : World) (hM : Ext M (heapOf w)) (hr_a1_3 : IntRow M .u8 a1_3 (Der.bytes a1)) (hr_a1_5 : IntRow M .u64 a1_5 (Der.arcs a1)) (hr_a1_6 : RowS ShDer M a1_6 (Tree.kids a1)) : Calls Tryd.prog 28 #[.int .i64 a0,.agg (Der.ce a1 a1_3 a1_5 a1_6)] w (PostF (G:=Value × Value × Value) (fun g => .agg (Der.ce r (g.1) (g.2.1) (g.2.2))) (fun g M_ => (IntRow M_ .u8 (g.1) (Der.bytes r)) ∧ (IntRow M_ .u64 (g.2.1) (Der.arcs r)) ∧ (RowS ShDer M_ (g.2.2) (Tree.kids r))) M w):=by
 unfold der_Tag.f at h
 have hE:=Env.start hM
 refine calls_of_TT (N:=9) (S:=[(0,.int .i64 a0),(1,.agg (Der.ce a1 a1_3 a1_5 a1_6))]) (c:=B28) Tryd.func28 rfl rfl rfl (by simp) ?_
 show TT _ _ _ _ _ _ [.code (sub [] B28)] _ _
 refine TT.seq (x:=sub [0] B28) (y:=sub [1] B28) ?_
 refine TT.rg [0,1] [(.alloc,none),(.alloc,none)] rfl rfl ?_
 refine DL.new (ob:=.cells ((Der.ce a1 a1_3 a1_5 a1_6)) 27) (mk:=fun b => ptr b 0) (i:=0) rfl (Wn.none rfl) rfl rfl rfl (f_box (v:=.agg (Der.ce a1 a1_3 a1_5 a1_6)) rfl rfl) ?_
 intro b1 hb1
 refine DL.new (ob:=.cells (#[.int .i64 0,.bool false,.int .i64 0,(.slice none 0 0),str ([] : List UInt8),(.slice none 0 0),(.slice none 0 0)]) 27) (mk:=fun b => ptr b 0) (i:=1) rfl (Wn.none rfl) rfl rfl rfl (f_alloc ty_z27 rfl) ?_
 intro b2 hb2
 refine DL.nil ?_
 refine TT.seq (x:=sub [1,0] B28) (y:=sub [1,1] B28) ?_
 refine TT.rg [0,1,2,3,4] [kp,kq,(.alloc,none),kp,(.store,none)] rfl rfl ?_
 refine DL.mv 5 (.int .i64 a0) rfl rfl rfl ?_
 refine DL.qu 6 (.agg (Der.ce a1 a1_3 a1_5 a1_6)) rfl (f_loadA (j:=1) ty_a27 ty_s27 rfl rfl rfl rfl) ?_
 refine DL.newS (M:=M) (s:=ShDer) (zs:=[a1]) (cells:=[.int .i64 (Der.kind a1),.bool (Der.flag a1),.int .i64 (Der.num a1),a1_3,str (Der.text a1),a1_5,a1_6]) (n:=1) rfl (by decide) rfl (fun i x hx => by match i,hx with | 0,hx => cases hx; exact (Der.cl (t:=a1) hr_a1_3 hr_a1_5 hr_a1_6) | k + 1,hx => simp at hx) (i:=2) rfl (Wn.none rfl) rfl rfl rfl (f_buildS (n:=1) (vs:=[(0,.agg (Der.ce a1 a1_3 a1_5 a1_6))]) elem25 rfl rfl (by kernel_rfl) rfl (args_val2 rfl)) ?_
 intro s4_v s4_c ho_s4
 refine DL.pu 8 (.agg #[.int .i64 8,.bool false,.int .i64 a0,(.slice none 0 0),str ([] : List UInt8),(.slice none 0 0),s4_v]) rfl (p_build (vs:=[(0,.int .i64 8),(2,.int .i64 a0),(6,s4_v)]) (fun w => by obtain ⟨_,_,e_⟩:=OwnS.sl ho_s4; subst e_; kernel_rfl) rfl rfl) ?_
 refine DL.put (H':=[(Value.ownBlock s4_v,.cells s4_c 27 (0,0)),(some b2,.cells (#[.int .i64 8,.bool false,.int .i64 a0,(.slice none 0 0),str ([] : List UInt8),(.slice none 0 0),s4_v]) 27 (0,0)),(some b1,.cells ((Der.ce a1 a1_3 a1_5 a1_6)) 27 (0,0))]) (i:=4) rfl (Wn.none rfl) rfl rfl (f_storeA (j:=1) ty_s27 rfl rfl rfl (one_cons trivial (one_cons trivial (one_cons trivial (one_cons (sl_one (RowV.sl (IntRow.nil .u8 M))) (one_cons trivial (one_cons (sl_one (RowV.sl (IntRow.nil .u64 M))) (one_cons (sl_one (OwnS.sl ho_s4)) one_nil))))))) rfl rfl rfl) (keep_none rfl) ?_
 refine DL.nil ?_
 refine TT.freezeAt (j:=0) hE rfl ?_
 intro M5 I5 hE5 hx5 hxI5 hb5
 have hr_5 : RowS ShDer M5 s4_v [a1]:=OwnS.stays ho_s4 hx5 hb5
 show TT _ _ _ _ _ _ _ _ [(some b2,.cells (#[.int .i64 8,.bool false,.int .i64 a0,(.slice none 0 0),str ([] : List UInt8),(.slice none 0 0),s4_v]) 27 (0,0)),(some b1,.cells ((Der.ce a1 a1_3 a1_5 a1_6)) 27 (0,0))]
 obtain rfl:=Option.some.inj h
 exact retF (rs:=[.cell 4 27]) (vs:=[.agg #[.int .i64 8,.bool false,.int .i64 a0,(.slice none 0 0),str ([] : List UInt8),(.slice none 0 0),s4_v]]) ((.slice none 0 0),(.slice none 0 0),s4_v) hE5 Tryd.func28 rfl rfl rfl (res_cons (ResV.cell (j:=0) ty_a27 ty_s27 rfl rfl rfl) res_nil) ⟨(IntRow.nil .u8 M5),(IntRow.nil .u64 M5),hr_5⟩

/-! ### escutcheon/der.Bits: function 29 -/
noncomputable def B29 : Code:=bodyOf Tryd.f29
def der_Bits.f (a0 : List Int) : Option (Der):=(slices_Clone_41.f a0).bind fun t2 => some (Der.mk 3 false 0 t2 ([] : List UInt8) ([] : List Int) ([] : List Der))
set_option maxRecDepth 20000 in
theorem der_Bits.ok {a0 : List Int} {a0_v : Value} {r : Der} (h : der_Bits.f a0 = some r) {M : Mem} (w : World) (hM : Ext M (heapOf w)) (hr_a0 : IntRow M .u8 a0_v a0) : Calls Tryd.prog 29 #[a0_v] w (PostF (G:=Value × Value × Value) (fun g => .agg (Der.ce r (g.1) (g.2.1) (g.2.2))) (fun g M_ => (IntRow M_ .u8 (g.1) (Der.bytes r)) ∧ (IntRow M_ .u64 (g.2.1) (Der.arcs r)) ∧ (RowS ShDer M_ (g.2.2) (Tree.kids r))) M w):=by
 unfold der_Bits.f at h
 have hE:=Env.start hM
 refine calls_of_TT (N:=6) (S:=[(0,a0_v)]) (c:=B29) Tryd.func29 rfl rfl rfl (by simp) ?_
 show TT _ _ _ _ _ _ [.code (sub [] B29)] _ _
 refine TT.seq (x:=sub [0] B29) (y:=sub [1] B29) ?_
 refine TT.rg [0] [(.alloc,none)] rfl rfl ?_
 refine DL.new (ob:=.cells (#[.int .i64 0,.bool false,.int .i64 0,(.slice none 0 0),str ([] : List UInt8),(.slice none 0 0),(.slice none 0 0)]) 27) (mk:=fun b => ptr b 0) (i:=0) rfl (Wn.none rfl) rfl rfl rfl (f_alloc ty_z27 rfl) ?_
 intro b1 hb1
 refine DL.nil ?_
 refine TT.seq (x:=sub [1,0] B29) (y:=sub [1,1] B29) ?_
 refine TT.rg [0,1,2,3] [kp,kk,kp,(.store,none)] rfl rfl ?_
 refine DL.mv 3 (a0_v) rfl rfl rfl ?_
 obtain ⟨t2,h3,h4⟩:=bind_some h
 refine DL.callF (G:=Value) (u:=fun g => g) (Q:=fun g M_ => (IntRow M_ .u8 g t2)) (A:=[(some b1,.cells (#[.int .i64 0,.bool false,.int .i64 0,(.slice none 0 0),str ([] : List UInt8),(.slice none 0 0),(.slice none 0 0)]) 27 (0,0))]) (J:=[]) (fun J5 => ((some b1,.cells (#[.int .i64 0,.bool false,.int .i64 0,(.slice none 0 0),str ([] : List UInt8),(.slice none 0 0),(.slice none 0 0)]) 27 (0,0)) :: J5)) (Nat.le_refl _) hE.nil (List.append_nil _).symm (fun _ => rfl) (by simp) (i:=1) rfl (Wn.none rfl) rfl rfl rfl rfl rfl rfl (args_val (vs:=[a0_v]) rfl) (fun w => enter41 _ w) (fun w hc hI => slices_Clone_41.ok h3 (M:=M) w hI hr_a0) ?_
 rintro t2_v M5 J5 hE5 hx5 hr_t2
 show DL _ _ _ _ _ _ _ _ _ _ _ _ ((some b1,.cells (#[.int .i64 0,.bool false,.int .i64 0,(.slice none 0 0),str ([] : List UInt8),(.slice none 0 0),(.slice none 0 0)]) 27 (0,0)) :: J5)
 refine DL.pu 5 (.agg #[.int .i64 3,.bool false,.int .i64 0,t2_v,str ([] : List UInt8),(.slice none 0 0),(.slice none 0 0)]) rfl (p_build (vs:=[(0,.int .i64 3),(3,t2_v)]) (fun w => by obtain ⟨_,_,e_⟩:=RowV.sl hr_t2; subst e_; kernel_rfl) rfl rfl) ?_
 refine DL.put (H':=((some b1,.cells (#[.int .i64 3,.bool false,.int .i64 0,t2_v,str ([] : List UInt8),(.slice none 0 0),(.slice none 0 0)]) 27 (0,0)) :: J5)) (i:=3) rfl (Wn.none rfl) rfl rfl (f_storeA (j:=0) ty_s27 rfl rfl rfl (one_cons trivial (one_cons trivial (one_cons trivial (one_cons (sl_one (RowV.sl hr_t2)) (one_cons trivial (one_cons (sl_one (RowV.sl (IntRow.nil .u64 M5))) (one_cons (sl_one (RowS.sl (RowS.nil ShDer M5))) one_nil))))))) rfl rfl rfl) (keep_none rfl) ?_
 refine DL.nil ?_
 refine TT.settle (A:=[(some b1,.cells (#[.int .i64 3,.bool false,.int .i64 0,t2_v,str ([] : List UInt8),(.slice none 0 0),(.slice none 0 0)]) 27 (0,0))]) (J:=J5) hE5 ?_
 intro I6 hE6 hxI6
 obtain rfl:=Option.some.inj h4
 exact retF (rs:=[.cell 2 27]) (vs:=[.agg #[.int .i64 3,.bool false,.int .i64 0,t2_v,str ([] : List UInt8),(.slice none 0 0),(.slice none 0 0)]]) (t2_v,(.slice none 0 0),(.slice none 0 0)) hE6 Tryd.func29 rfl rfl rfl (res_cons (ResV.cell (j:=0) ty_a27 ty_s27 rfl rfl rfl) res_nil) ⟨hr_t2,(IntRow.nil .u64 M5),(RowS.nil ShDer M5)⟩

/-! ### escutcheon/der.Text: function 30 -/
noncomputable def B30 : Code:=bodyOf Tryd.f30
def der_Text.f (a0 : List UInt8) : Option (Der):=some (Der.mk 6 false 0 ([] : List Int) a0 ([] : List Int) ([] : List Der))
set_option maxRecDepth 20000 in
theorem der_Text.ok {a0 : List UInt8} {r : Der} (h : der_Text.f a0 = some r) {M : Mem} (w : World) (hM : Ext M (heapOf w)) : Calls Tryd.prog 30 #[str a0] w (PostF (G:=Value × Value × Value) (fun g => .agg (Der.ce r (g.1) (g.2.1) (g.2.2))) (fun g M_ => (IntRow M_ .u8 (g.1) (Der.bytes r)) ∧ (IntRow M_ .u64 (g.2.1) (Der.arcs r)) ∧ (RowS ShDer M_ (g.2.2) (Tree.kids r))) M w):=by
 unfold der_Text.f at h
 have hE:=Env.start hM
 refine calls_of_TT (N:=5) (S:=[(0,str a0)]) (c:=B30) Tryd.func30 rfl rfl rfl (by simp) ?_
 show TT _ _ _ _ _ _ [.code (sub [] B30)] _ _
 refine TT.seq (x:=sub [0] B30) (y:=sub [1] B30) ?_
 refine TT.rg [0] [(.alloc,none)] rfl rfl ?_
 refine DL.new (ob:=.cells (#[.int .i64 0,.bool false,.int .i64 0,(.slice none 0 0),str ([] : List UInt8),(.slice none 0 0),(.slice none 0 0)]) 27) (mk:=fun b => ptr b 0) (i:=0) rfl (Wn.none rfl) rfl rfl rfl (f_alloc ty_z27 rfl) ?_
 intro b1 hb1
 refine DL.nil ?_
 refine TT.seq (x:=sub [1,0] B30) (y:=sub [1,1] B30) ?_
 refine TT.rg [0,1,2] [kp,kp,(.store,none)] rfl rfl ?_
 refine DL.mv 3 (str a0) rfl rfl rfl ?_
 refine DL.pu 4 (.agg #[.int .i64 6,.bool false,.int .i64 0,(.slice none 0 0),str a0,(.slice none 0 0),(.slice none 0 0)]) rfl (p_build (vs:=[(0,.int .i64 6),(4,str a0)]) (fun w => by kernel_rfl) rfl rfl) ?_
 refine DL.put (H':=[(some b1,.cells (#[.int .i64 6,.bool false,.int .i64 0,(.slice none 0 0),str a0,(.slice none 0 0),(.slice none 0 0)]) 27 (0,0))]) (i:=2) rfl (Wn.none rfl) rfl rfl (f_storeA (j:=0) ty_s27 rfl rfl rfl (one_cons trivial (one_cons trivial (one_cons trivial (one_cons (sl_one (RowV.sl (IntRow.nil .u8 M))) (one_cons trivial (one_cons (sl_one (RowV.sl (IntRow.nil .u64 M))) (one_cons (sl_one (RowS.sl (RowS.nil ShDer M))) one_nil))))))) rfl rfl rfl) (keep_none rfl) ?_
 refine DL.nil ?_
 obtain rfl:=Option.some.inj h
 exact retF (rs:=[.cell 2 27]) (vs:=[.agg #[.int .i64 6,.bool false,.int .i64 0,(.slice none 0 0),str a0,(.slice none 0 0),(.slice none 0 0)]]) ((.slice none 0 0),(.slice none 0 0),(.slice none 0 0)) hE Tryd.func30 rfl rfl rfl (res_cons (ResV.cell (j:=0) ty_a27 ty_s27 rfl rfl rfl) res_nil) ⟨(IntRow.nil .u8 M),(IntRow.nil .u64 M),(RowS.nil ShDer M)⟩

@[reducible] def ref13_read.Rec (r_ : (List Int) → Int → Option (Der × Int × Bool)) : Prop:=∀ {a0 : List Int} {a1 : Int} {a0_v : Value} {r_0 : Der} {r_1 : Int} {r_2 : Bool},r_ a0 a1 = some (r_0,r_1,r_2) → ∀ {M : Mem} (w : World) (hM : Ext M (heapOf w)) (hr_a0 : IntRow M .u8 a0_v a0),Calls Tryd.prog 39 #[a0_v,.int .i64 a1] w ((PostF (G:=Value × Value × Value) (fun g => .tuple #[.agg (Der.ce r_0 (g.1) (g.2.1) (g.2.2)),.int .i64 r_1,.bool r_2]) (fun g M_ => (IntRow M_ .u8 (g.1) (Der.bytes r_0)) ∧ (IntRow M_ .u64 (g.2.1) (Der.arcs r_0)) ∧ (RowS ShDer M_ (g.2.2) (Tree.kids r_0))) M w))

end Go.Proofs.YtjhknfpociahoaaDoor
