import Derived.Test.YtjhknfpociahoaaDoorDe6
namespace Go.Proofs.YtjhknfpociahoaaDoor
open Go Go.HW Go.RowKit
set_option linter.unusedVariables false
set_option linter.unusedSimpArgs false

/-! ### escutcheon/escutcheonlaw13.DerMeans: function 5 -/
noncomputable def B5 : Code:=bodyOf Tryd.f5
def law13_DerMeans.f (a0 : Der) (a1 : Der) (a2 : List Int) : Option (Bool):=(law13_known.f).bind fun t3 => if (!t3) = true then (some false) else ((law13_few.f a0).bind fun t9 => (if (!t9) = true then (some true) else ((law13_few.f a1).bind fun t20 => some (!t20))).bind fun q13 => (if q13 = true then (some true) else (some (decide (9000 < (a2.length : Int))))).bind fun q24 => if q24 = true then (some true) else ((der_Bytes.f a0).bind fun (t34_0,t34_1) => (der_Bytes.f a1).bind fun (t39_0,t39_1) => (law13_num.f t34_1).bind fun t44 => if (t44 == 0) = true then ((der_Of.f t34_0).bind fun (t49_0,t49_1) => (law13_num.f t49_1).bind fun t55 => (if (t55 != 0) = true then (some true) else ((ref13_Same.f (Der.fuel t49_0) t49_0 a0).bind fun t66 => some (!t66))).bind fun q59 => if q59 = true then (some false) else ((law13_num.f t34_1).bind fun t72 => (law13_num.f t39_1).bind fun t75 => if ((IntKind.i64.wrap (t72 + t75)) == 0) = true then (nm (decide ((t34_0.length : Int) ≤ (t39_0.length : Int))) fun t81 => (if t81 = true then (req (0 ≤ (t34_0.length : Int)) (req ((t34_0.length : Int) ≤ (t39_0.length : Int)) (nm ((bytesL (t39_0.take (t34_0.length : Int).toNat)) == (bytesL t34_0)) fun t96 => some t96))) else (some false)).bind fun q85 => (ref13_Same.f (Der.fuel a0) a0 a1).bind fun t100 => if (!(q85 == t100)) = true then (some false) else ((der_Of.f a2).bind fun (t106_0,t106_1) => (law13_num.f t106_1).bind fun t112 => if (t112 != 0) = true then (some true) else ((der_Bytes.f t106_0).bind fun (t118_0,t118_1) => (law13_num.f t118_1).bind fun t123 => (if (t123 == 0) = true then (some ((bytesL t118_0) == (bytesL a2))) else (some false)).bind fun q127 => (if q127 = true then ((der_May.f t106_0).bind fun t141 => some t141) else (some false)).bind fun q135 => some q135))) else ((der_Of.f a2).bind fun (t146_0,t146_1) => (law13_num.f t146_1).bind fun t152 => if (t152 != 0) = true then (some true) else ((der_Bytes.f t146_0).bind fun (t158_0,t158_1) => (law13_num.f t158_1).bind fun t163 => (if (t163 == 0) = true then (some ((bytesL t158_0) == (bytesL a2))) else (some false)).bind fun q167 => (if q167 = true then ((der_May.f t146_0).bind fun t181 => some t181) else (some false)).bind fun q175 => some q175)))) else ((law13_num.f t34_1).bind fun t186 => (law13_num.f t39_1).bind fun t189 => if ((IntKind.i64.wrap (t186 + t189)) == 0) = true then (nm (decide ((t34_0.length : Int) ≤ (t39_0.length : Int))) fun t195 => (if t195 = true then (req (0 ≤ (t34_0.length : Int)) (req ((t34_0.length : Int) ≤ (t39_0.length : Int)) (nm ((bytesL (t39_0.take (t34_0.length : Int).toNat)) == (bytesL t34_0)) fun t210 => some t210))) else (some false)).bind fun q199 => (ref13_Same.f (Der.fuel a0) a0 a1).bind fun t214 => if (!(q199 == t214)) = true then (some false) else ((der_Of.f a2).bind fun (t220_0,t220_1) => (law13_num.f t220_1).bind fun t226 => if (t226 != 0) = true then (some true) else ((der_Bytes.f t220_0).bind fun (t232_0,t232_1) => (law13_num.f t232_1).bind fun t237 => (if (t237 == 0) = true then (some ((bytesL t232_0) == (bytesL a2))) else (some false)).bind fun q241 => (if q241 = true then ((der_May.f t220_0).bind fun t255 => some t255) else (some false)).bind fun q249 => some q249))) else ((der_Of.f a2).bind fun (t260_0,t260_1) => (law13_num.f t260_1).bind fun t266 => if (t266 != 0) = true then (some true) else ((der_Bytes.f t260_0).bind fun (t272_0,t272_1) => (law13_num.f t272_1).bind fun t277 => (if (t277 == 0) = true then (some ((bytesL t272_0) == (bytesL a2))) else (some false)).bind fun q281 => (if q281 = true then ((der_May.f t260_0).bind fun t295 => some t295) else (some false)).bind fun q289 => some q289)))))
set_option maxRecDepth 20000 in
theorem law13_DerMeans.ok {a0 : Der} {a1 : Der} {a2 : List Int} {a0_3 : Value} {a0_5 : Value} {a0_6 : Value} {a1_3 : Value} {a1_5 : Value} {a1_6 : Value} {a2_v : Value} {r : Bool} (h : law13_DerMeans.f a0 a1 a2 = some r) {M : Mem} (w : World) (hM : Ext M (heapOf w)) (hG : Glob M) (hr_a0_3 : IntRow M .u8 a0_3 (Der.bytes a0)) (hr_a0_5 : IntRow M .u64 a0_5 (Der.arcs a0)) (hr_a0_6 : RowS ShDer M a0_6 (Tree.kids a0)) (hr_a1_3 : IntRow M .u8 a1_3 (Der.bytes a1)) (hr_a1_5 : IntRow M .u64 a1_5 (Der.arcs a1)) (hr_a1_6 : RowS ShDer M a1_6 (Tree.kids a1)) (hr_a2 : IntRow M .u8 a2_v a2) : Calls Tryd.prog 5 #[.agg (Der.ce a0 a0_3 a0_5 a0_6),.agg (Der.ce a1 a1_3 a1_5 a1_6),a2_v] w (Post (fun u => u = .bool r) w):=by
 unfold law13_DerMeans.f at h
 have hE:=Env.start hM
 refine calls_of_TT (N:=113) (S:=[(0,.agg (Der.ce a0 a0_3 a0_5 a0_6)),(1,.agg (Der.ce a1 a1_3 a1_5 a1_6)),(2,a2_v)]) (c:=B5) Tryd.func5 rfl rfl rfl (by simp) ?_
 show TT _ _ _ _ _ _ [.code (sub [] B5)] _ _
 refine TT.seq (x:=sub [0] B5) (y:=sub [1] B5) ?_
 refine TT.rg [0,1,2] [(.alloc,none),(.alloc,none),kp] rfl rfl ?_
 refine DL.new (ob:=.cells ((Der.ce a0 a0_3 a0_5 a0_6)) 27) (mk:=fun b => ptr b 0) (i:=0) rfl (Wn.none rfl) rfl rfl rfl (f_box (v:=.agg (Der.ce a0 a0_3 a0_5 a0_6)) rfl rfl) ?_
 intro b1 hb1
 refine DL.new (ob:=.cells ((Der.ce a1 a1_3 a1_5 a1_6)) 27) (mk:=fun b => ptr b 0) (i:=1) rfl (Wn.none rfl) rfl rfl rfl (f_box (v:=.agg (Der.ce a1 a1_3 a1_5 a1_6)) rfl rfl) ?_
 intro b2 hb2
 refine DL.pu 6 (.bool false) rfl (p_assign rfl rfl) ?_
 refine DL.nil ?_
 refine TT.seq (x:=sub [1,0] B5) (y:=sub [1,1] B5) ?_
 refine TT.seq (x:=sub [1,0,0] B5) (y:=sub [1,0,1] B5) ?_
 refine TT.rg [0,1] [kq,kp] rfl rfl ?_
 obtain ⟨t3,h4,h5⟩:=bind_some h
 refine DL.qu 18 (.bool t3) rfl (f_callR rfl rfl (args_val (vs:=[]) rfl) (fun w => enter11 _ w) (fun w hc => law13_known.val h4 (M:=M) w (hE.ext hc) hG)) ?_
 refine DL.pu 19 (.bool (!t3)) rfl (p_not rfl rfl) ?_
 refine DL.nil ?_
 by_cases c6 : (!t3) = true
 ·
  have h7:=ite_true c6 h5
  refine TT.cond_true (x:=sub [1,0,1,0] B5) (y:=sub [1,0,1,1] B5) rfl c6 ?_
  refine TT.seq (x:=sub [1,0,1,0,0] B5) (y:=sub [1,0,1,0,1] B5) ?_
  refine TT.rg [0] [kp] rfl rfl ?_
  refine DL.pu 6 (.bool false) rfl (p_assign rfl rfl) ?_
  refine DL.nil ?_
  obtain rfl:=Option.some.inj h7
  exact retnE (rs:=[.tmp 6]) (vs:=[.bool false]) hE.base Tryd.func5 rfl rfl rfl (res_cons (ResV.tmp rfl) res_nil) rfl
 ·
  replace c6:=Bool.eq_false_iff.mpr c6
  have h8:=ite_false c6 h5
  refine TT.cond_false (x:=sub [1,0,1,0] B5) (y:=sub [1,0,1,1] B5) rfl c6 ?_
  refine TT.skip ?_
  refine TT.seq (x:=sub [1,1,0] B5) (y:=sub [1,1,1] B5) ?_
  refine TT.seq (x:=sub [1,1,0,0] B5) (y:=sub [1,1,0,1] B5) ?_
  refine TT.rg [0,1,2,3,4,5,6,7,8,9,10,11,12] [kq,kq,kp,kp,kq,kq,kp,kp,kp,kp,kp,kp,kp] rfl rfl ?_
  refine DL.qu 20 (.agg (Der.ce a0 a0_3 a0_5 a0_6)) rfl (f_loadA (j:=1) ty_a27 ty_s27 rfl rfl rfl rfl) ?_
  obtain ⟨t9,h10,h11⟩:=bind_some h8
  refine DL.qu 21 (.bool t9) rfl (f_callR rfl rfl (args_val (vs:=[.agg (Der.ce a0 a0_3 a0_5 a0_6)]) rfl) (fun w => enter10 _ w) (fun w hc => law13_few.val h10 (M:=M) w (hE.ext hc) hr_a0_3 hr_a0_5 hr_a0_6)) ?_
  refine DL.pu 22 (.bool (!t9)) rfl (p_not rfl rfl) ?_
  refine DL.mv 23 (.bool (!t9)) rfl rfl rfl ?_
  obtain ⟨q13,h14,h15⟩:=bind_some h11
  refine DL.cut [(2,a2_v),(3,ptr b1 0),(4,ptr b2 0),(27,.bool q13)] [8,9,10,11,12] ?_ (fun J16 => ?_)
  ·
   refine DL.mv 28 (.bool q13) rfl rfl rfl ?_
   obtain ⟨q24,h25,h26⟩:=bind_some h15
   refine DL.cut [(2,a2_v),(3,ptr b1 0),(4,ptr b2 0),(32,.bool q24)] [] ?_ (fun J27 => ?_)
   ·
    refine DL.nil ?_
    by_cases c31 : q24 = true
    ·
     have h32:=ite_true c31 h26
     refine TT.cond_true (x:=sub [1,1,0,1,0] B5) (y:=sub [1,1,0,1,1] B5) rfl c31 ?_
     refine TT.seq (x:=sub [1,1,0,1,0,0] B5) (y:=sub [1,1,0,1,0,1] B5) ?_
     refine TT.rg [0] [kp] rfl rfl ?_
     refine DL.pu 6 (.bool true) rfl (p_assign rfl rfl) ?_
     refine DL.nil ?_
     obtain rfl:=Option.some.inj h32
     exact retnE (rs:=[.tmp 6]) (vs:=[.bool true]) hE.base Tryd.func5 rfl rfl rfl (res_cons (ResV.tmp rfl) res_nil) rfl
    ·
     replace c31:=Bool.eq_false_iff.mpr c31
     have h33:=ite_false c31 h26
     refine TT.cond_false (x:=sub [1,1,0,1,0] B5) (y:=sub [1,1,0,1,1] B5) rfl c31 ?_
     refine TT.skip ?_
     refine TT.seq (x:=sub [1,1,1,0] B5) (y:=sub [1,1,1,1] B5) ?_
     refine TT.rg [0,1,2,3,4,5,6] [kq,kk,kp,kp,kp,kp,kp] rfl rfl ?_
     refine DL.qu 34 (.agg (Der.ce a0 a0_3 a0_5 a0_6)) rfl (f_loadA (j:=1) ty_a27 ty_s27 rfl rfl rfl rfl) ?_
     obtain ⟨⟨t34_0,t34_1⟩,h35,h36⟩:=bind_some h33
     refine DL.callF (G:=Value) (u:=fun g => .tuple #[g,.int .i64 t34_1]) (Q:=fun g M_ => (IntRow M_ .u8 g t34_0)) (A:=[(some b2,.cells ((Der.ce a1 a1_3 a1_5 a1_6)) 27 (0,0)),(some b1,.cells ((Der.ce a0 a0_3 a0_5 a0_6)) 27 (0,0))]) (J:=[]) (fun J37 => ((some b2,.cells ((Der.ce a1 a1_3 a1_5 a1_6)) 27 (0,0)) :: (some b1,.cells ((Der.ce a0 a0_3 a0_5 a0_6)) 27 (0,0)) :: J37)) (Nat.le_refl _) hE.nil (List.append_nil _).symm (fun _ => rfl) (by simp) (i:=1) rfl (Wn.none rfl) rfl rfl rfl rfl rfl rfl (args_val (vs:=[.agg (Der.ce a0 a0_3 a0_5 a0_6)]) rfl) (fun w => enter12 _ w) (fun w hc hI => der_Bytes.ok h35 (M:=M) w hI hG hr_a0_3 hr_a0_5 hr_a0_6) ?_
     rintro t34_0_v M37 J37 hE37 hx37 hr_t34_0
     show DL _ _ _ _ _ _ _ _ _ _ _ _ ((some b2,.cells ((Der.ce a1 a1_3 a1_5 a1_6)) 27 (0,0)) :: (some b1,.cells ((Der.ce a0 a0_3 a0_5 a0_6)) 27 (0,0)) :: J37)
     refine DL.mv 33 (.tuple #[t34_0_v,.int .i64 t34_1]) rfl rfl rfl ?_
     refine DL.pu 36 (t34_0_v) rfl (p_extract rfl rfl rfl) ?_
     refine DL.pu 37 (.int .i64 t34_1) rfl (p_extract rfl rfl rfl) ?_
     refine DL.pu 7 (t34_0_v) rfl (p_assign rfl rfl) ?_
     refine DL.pu 8 (.int .i64 t34_1) rfl (p_assign rfl rfl) ?_
     refine DL.nil ?_
     refine TT.settle (A:=[(some b2,.cells ((Der.ce a1 a1_3 a1_5 a1_6)) 27 (0,0)),(some b1,.cells ((Der.ce a0 a0_3 a0_5 a0_6)) 27 (0,0))]) (J:=J37) hE37 ?_
     intro I38 hE38 hxI38
     refine TT.seq (x:=sub [1,1,1,1,0] B5) (y:=sub [1,1,1,1,1] B5) ?_
     refine TT.rg [0,1,2,3,4,5,6] [kq,kk,kp,kp,kp,kp,kp] rfl rfl ?_
     refine DL.qu 39 (.agg (Der.ce a1 a1_3 a1_5 a1_6)) rfl (f_loadA (j:=0) ty_a27 ty_s27 rfl rfl rfl rfl) ?_
     obtain ⟨⟨t39_0,t39_1⟩,h40,h41⟩:=bind_some h36
     refine DL.callF (G:=Value) (u:=fun g => .tuple #[g,.int .i64 t39_1]) (Q:=fun g M_ => (IntRow M_ .u8 g t39_0)) (A:=[(some b2,.cells ((Der.ce a1 a1_3 a1_5 a1_6)) 27 (0,0)),(some b1,.cells ((Der.ce a0 a0_3 a0_5 a0_6)) 27 (0,0))]) (J:=[]) (fun J42 => ((some b2,.cells ((Der.ce a1 a1_3 a1_5 a1_6)) 27 (0,0)) :: (some b1,.cells ((Der.ce a0 a0_3 a0_5 a0_6)) 27 (0,0)) :: J42)) (Nat.le_refl _) hE38.nil (List.append_nil _).symm (fun _ => rfl) (by simp) (i:=1) rfl (Wn.none rfl) rfl rfl rfl rfl rfl rfl (args_val (vs:=[.agg (Der.ce a1 a1_3 a1_5 a1_6)]) rfl) (fun w => enter12 _ w) (fun w hc hI => der_Bytes.ok h40 (M:=M37) w hI (Glob.mono hG hx37) (IntRow.mono hr_a1_3 hx37) (IntRow.mono hr_a1_5 hx37) (RowS.mono hr_a1_6 hx37)) ?_
     rintro t39_0_v M42 J42 hE42 hx42 hr_t39_0
     show DL _ _ _ _ _ _ _ _ _ _ _ _ ((some b2,.cells ((Der.ce a1 a1_3 a1_5 a1_6)) 27 (0,0)) :: (some b1,.cells ((Der.ce a0 a0_3 a0_5 a0_6)) 27 (0,0)) :: J42)
     refine DL.mv 38 (.tuple #[t39_0_v,.int .i64 t39_1]) rfl rfl rfl ?_
     refine DL.pu 41 (t39_0_v) rfl (p_extract rfl rfl rfl) ?_
     refine DL.pu 42 (.int .i64 t39_1) rfl (p_extract rfl rfl rfl) ?_
     refine DL.pu 9 (t39_0_v) rfl (p_assign rfl rfl) ?_
     refine DL.pu 10 (.int .i64 t39_1) rfl (p_assign rfl rfl) ?_
     refine DL.nil ?_
     refine TT.settle (A:=[(some b2,.cells ((Der.ce a1 a1_3 a1_5 a1_6)) 27 (0,0)),(some b1,.cells ((Der.ce a0 a0_3 a0_5 a0_6)) 27 (0,0))]) (J:=J42) hE42 ?_
     intro I43 hE43 hxI43
     refine TT.seq (x:=sub [1,1,1,1,1,0] B5) (y:=sub [1,1,1,1,1,1] B5) ?_
     refine TT.seq (x:=sub [1,1,1,1,1,0,0] B5) (y:=sub [1,1,1,1,1,0,1] B5) ?_
     refine TT.rg [0,1,2] [kp,kq,kp] rfl rfl ?_
     refine DL.mv 43 (.int .i64 t34_1) rfl rfl rfl ?_
     obtain ⟨t44,h45,h46⟩:=bind_some h41
     refine DL.qu 44 (.int .i64 t44) rfl (f_callR rfl rfl (args_val (vs:=[.int .i64 t34_1]) rfl) (fun w => enter16 _ w) (fun w hc => law13_num.val h45 (M:=M42) w (hE43.ext hc) )) ?_
     refine DL.pu 45 (.bool (t44 == 0)) rfl (p_eql rfl rfl rfl) ?_
     refine DL.nil ?_
     by_cases c47 : (t44 == 0) = true
     ·
      have h48:=ite_true c47 h46
      refine TT.cond_true (x:=sub [1,1,1,1,1,0,1,0] B5) (y:=sub [1,1,1,1,1,0,1,1] B5) rfl c47 ?_
      refine TT.seq (x:=sub [1,1,1,1,1,0,1,0,0] B5) (y:=sub [1,1,1,1,1,0,1,0,1] B5) ?_
      refine TT.rg [0,1,2,3,4,5,6,7] [kp,kk,kp,kp,kp,(.alloc,none),(.store,none),kp] rfl rfl ?_
      refine DL.mv 47 (t34_0_v) rfl rfl rfl ?_
      obtain ⟨⟨t49_0,t49_1⟩,h50,h51⟩:=bind_some h48
      refine DL.callF (G:=Value × Value × Value) (u:=fun g => .tuple #[.agg (Der.ce t49_0 (g.1) (g.2.1) (g.2.2)),.int .i64 t49_1]) (Q:=fun g M_ => (IntRow M_ .u8 (g.1) (Der.bytes t49_0)) ∧ (IntRow M_ .u64 (g.2.1) (Der.arcs t49_0)) ∧ (RowS ShDer M_ (g.2.2) (Tree.kids t49_0))) (A:=[(some b2,.cells ((Der.ce a1 a1_3 a1_5 a1_6)) 27 (0,0)),(some b1,.cells ((Der.ce a0 a0_3 a0_5 a0_6)) 27 (0,0))]) (J:=[]) (fun J52 => ((some b2,.cells ((Der.ce a1 a1_3 a1_5 a1_6)) 27 (0,0)) :: (some b1,.cells ((Der.ce a0 a0_3 a0_5 a0_6)) 27 (0,0)) :: J52)) (Nat.le_refl _) hE43.nil (List.append_nil _).symm (fun _ => rfl) (by simp) (i:=1) rfl (Wn.none rfl) rfl rfl rfl rfl rfl rfl (args_val (vs:=[t34_0_v]) rfl) (fun w => enter19 _ w) (fun w hc hI => der_Of.ok h50 (M:=M42) w hI (Glob.mono hG (hx37.trans hx42)) (IntRow.mono hr_t34_0 hx42)) ?_
      rintro ⟨t49_0_3,t49_0_5,t49_0_6⟩ M52 J52 hE52 hx52 ⟨hr_t49_0_3,hr_t49_0_5,hr_t49_0_6⟩
      show DL _ _ _ _ _ _ _ _ _ _ _ _ ((some b2,.cells ((Der.ce a1 a1_3 a1_5 a1_6)) 27 (0,0)) :: (some b1,.cells ((Der.ce a0 a0_3 a0_5 a0_6)) 27 (0,0)) :: J52)
      refine DL.mv 46 (.tuple #[.agg (Der.ce t49_0 t49_0_3 t49_0_5 t49_0_6),.int .i64 t49_1]) rfl rfl rfl ?_
      refine DL.pu 49 (.agg (Der.ce t49_0 t49_0_3 t49_0_5 t49_0_6)) rfl (p_extract rfl rfl rfl) ?_
      refine DL.pu 50 (.int .i64 t49_1) rfl (p_extract rfl rfl rfl) ?_
      refine DL.new (ob:=.cells (#[.int .i64 0,.bool false,.int .i64 0,(.slice none 0 0),str ([] : List UInt8),(.slice none 0 0),(.slice none 0 0)]) 27) (mk:=fun b => ptr b 0) (i:=5) rfl (Wn.none rfl) rfl rfl rfl (f_alloc ty_z27 rfl) ?_
      intro b53 hb53
      refine DL.put (H':=((some b53,.cells ((Der.ce t49_0 t49_0_3 t49_0_5 t49_0_6)) 27 (0,0)) :: (some b2,.cells ((Der.ce a1 a1_3 a1_5 a1_6)) 27 (0,0)) :: (some b1,.cells ((Der.ce a0 a0_3 a0_5 a0_6)) 27 (0,0)) :: J52)) (i:=6) rfl (Wn.none rfl) rfl rfl (f_storeA (j:=0) ty_s27 rfl rfl rfl (one_cons trivial (one_cons trivial (one_cons trivial (one_cons (sl_one (RowV.sl hr_t49_0_3)) (one_cons trivial (one_cons (sl_one (RowV.sl hr_t49_0_5)) (one_cons (sl_one (RowS.sl hr_t49_0_6)) one_nil))))))) rfl rfl rfl) (keep_none rfl) ?_
      refine DL.pu 12 (.int .i64 t49_1) rfl (p_assign rfl rfl) ?_
      refine DL.nil ?_
      refine TT.settle (A:=[(some b53,.cells ((Der.ce t49_0 t49_0_3 t49_0_5 t49_0_6)) 27 (0,0)),(some b2,.cells ((Der.ce a1 a1_3 a1_5 a1_6)) 27 (0,0)),(some b1,.cells ((Der.ce a0 a0_3 a0_5 a0_6)) 27 (0,0))]) (J:=J52) hE52 ?_
      intro I54 hE54 hxI54
      refine TT.seq (x:=sub [1,1,1,1,1,0,1,0,1,0] B5) (y:=sub [1,1,1,1,1,0,1,0,1,1] B5) ?_
      refine TT.rg [0,1,2,3,4,5,6,7,8] [kp,kq,kp,kp,kq,kq,kq,kp,kp] rfl rfl ?_
      refine DL.mv 51 (.int .i64 t49_1) rfl rfl rfl ?_
      obtain ⟨t55,h56,h57⟩:=bind_some h51
      refine DL.qu 52 (.int .i64 t55) rfl (f_callR rfl rfl (args_val (vs:=[.int .i64 t49_1]) rfl) (fun w => enter16 _ w) (fun w hc => law13_num.val h56 (M:=M52) w (hE54.ext hc) )) ?_
      refine DL.pu 53 (.bool (t55 != 0)) rfl (p_neq rfl rfl rfl) ?_
      refine DL.mv 54 (.bool (t55 != 0)) rfl rfl rfl ?_
      obtain ⟨q59,h60,h61⟩:=bind_some h57
      refine DL.cut [(2,a2_v),(3,ptr b1 0),(4,ptr b2 0),(7,t34_0_v),(8,.int .i64 t34_1),(9,t39_0_v),(10,.int .i64 t39_1),(59,.bool q59)] [] ?_ (fun J62 => ?_)
      ·
       refine DL.nil ?_
       by_cases c69 : q59 = true
       ·
        have h70:=ite_true c69 h61
        refine TT.cond_true (x:=sub [1,1,1,1,1,0,1,0,1,1,0] B5) (y:=sub [1,1,1,1,1,0,1,0,1,1,1] B5) rfl c69 ?_
        refine TT.seq (x:=sub [1,1,1,1,1,0,1,0,1,1,0,0] B5) (y:=sub [1,1,1,1,1,0,1,0,1,1,0,1] B5) ?_
        refine TT.rg [0] [kp] rfl rfl ?_
        refine DL.pu 6 (.bool false) rfl (p_assign rfl rfl) ?_
        refine DL.nil ?_
        obtain rfl:=Option.some.inj h70
        exact retnE (rs:=[.tmp 6]) (vs:=[.bool false]) hE54.base Tryd.func5 rfl rfl rfl (res_cons (ResV.tmp rfl) res_nil) rfl
       ·
        replace c69:=Bool.eq_false_iff.mpr c69
        have h71:=ite_false c69 h61
        refine TT.cond_false (x:=sub [1,1,1,1,1,0,1,0,1,1,0] B5) (y:=sub [1,1,1,1,1,0,1,0,1,1,1] B5) rfl c69 ?_
        refine TT.skip ?_
        refine TT.seq (x:=sub [1,1,1,1,1,1,0] B5) (y:=sub [1,1,1,1,1,1,1] B5) ?_
        refine TT.seq (x:=sub [1,1,1,1,1,1,0,0] B5) (y:=sub [1,1,1,1,1,1,0,1] B5) ?_
        refine TT.rg [0,1,2,3,4,5] [kp,kq,kp,kq,kp,kp] rfl rfl ?_
        refine DL.mv 60 (.int .i64 t34_1) rfl rfl rfl ?_
        obtain ⟨t72,h73,h74⟩:=bind_some h71
        refine DL.qu 61 (.int .i64 t72) rfl (f_callR rfl rfl (args_val (vs:=[.int .i64 t34_1]) rfl) (fun w => enter16 _ w) (fun w hc => law13_num.val h73 (M:=M52) w (hE54.ext hc) )) ?_
        refine DL.mv 62 (.int .i64 t39_1) rfl rfl rfl ?_
        obtain ⟨t75,h76,h77⟩:=bind_some h74
        refine DL.qu 63 (.int .i64 t75) rfl (f_callR rfl rfl (args_val (vs:=[.int .i64 t39_1]) rfl) (fun w => enter16 _ w) (fun w hc => law13_num.val h76 (M:=M52) w (hE54.ext hc) )) ?_
        refine DL.pu 64 (.int .i64 (IntKind.i64.wrap (t72 + t75))) rfl (p_add rfl rfl rfl) ?_
        refine DL.pu 65 (.bool ((IntKind.i64.wrap (t72 + t75)) == 0)) rfl (p_eql rfl rfl rfl) ?_
        refine DL.nil ?_
        by_cases c78 : ((IntKind.i64.wrap (t72 + t75)) == 0) = true
        ·
         have h79:=ite_true c78 h77
         refine TT.cond_true (x:=sub [1,1,1,1,1,1,0,1,0] B5) (y:=sub [1,1,1,1,1,1,0,1,1] B5) rfl c78 ?_
         refine TT.seq (x:=sub [1,1,1,1,1,1,0,1,0,0] B5) (y:=sub [1,1,1,1,1,1,0,1,0,1] B5) ?_
         refine TT.rgD [0,1,2,3,4,5,6,7,8,9,10,11,12,13,14,15] [0,1,0,4,15,31,63,63,191,511,1023,63,2111,8191,16383,32767] [kp,kp,kp,kp,kp,kp,kp,kp,kp,kp,kq,kp,kp,kp,kp,kp] rfl mixed (by kernel_rfl) ?_
         intro w80 hl80 hj80 hz80
         refine DL.mv 66 (t34_0_v) rfl rfl rfl ?_
         refine DL.pu 67 (.int .i64 (t34_0.length : Int)) rfl (p_slLen ty_u23 (RowV.sl (IntRow.mono hr_t34_0 (hx42.trans hx52))) rfl rfl) ?_
         refine DL.mv 68 (t39_0_v) rfl rfl rfl ?_
         refine DL.pu 69 (.int .i64 (t39_0.length : Int)) rfl (p_slLen ty_u23 (RowV.sl (IntRow.mono hr_t39_0 hx52)) rfl rfl) ?_
         obtain ⟨t81,e82,h83⟩:=nm_some h79
         refine DL.pu 70 (.bool t81) rfl (by rw [e82]; exact p_leq rfl rfl rfl) ?_
         refine DL.mv 71 (.bool t81) rfl rfl rfl ?_
         obtain ⟨q85,h86,h87⟩:=bind_some h83
         refine DL.cut [(2,a2_v),(3,ptr b1 0),(4,ptr b2 0),(80,.bool q85)] [15] ?_ (fun J88 => ?_)
         ·
          refine DL.pu 13 (.bool q85) rfl (p_assign rfl rfl) ?_
          refine DL.nil' hl80 ?_
          refine TT.seq (x:=sub [1,1,1,1,1,1,0,1,0,1,0] B5) (y:=sub [1,1,1,1,1,1,0,1,0,1,1] B5) ?_
          refine TT.rg [0,1,2,3,4] [kp,kq,kq,kq,kp] rfl rfl ?_
          refine DL.mv 81 (.bool q85) rfl rfl rfl ?_
          refine DL.qu 82 (.agg (Der.ce a0 a0_3 a0_5 a0_6)) rfl (f_loadA (j:=2) ty_a27 ty_s27 rfl rfl rfl rfl) ?_
          refine DL.qu 83 (.agg (Der.ce a1 a1_3 a1_5 a1_6)) rfl (f_loadA (j:=1) ty_a27 ty_s27 rfl rfl rfl rfl) ?_
          obtain ⟨t100,h101,h102⟩:=bind_some h87
          refine DL.qu 84 (.bool t100) rfl (f_callR rfl rfl (args_val (vs:=[.agg (Der.ce a0 a0_3 a0_5 a0_6),.agg (Der.ce a1 a1_3 a1_5 a1_6)]) rfl) (fun w => enter18 _ w) (fun w hc => ref13_Same.val h101 (M:=M52) w (hE54.ext hc) (IntRow.mono hr_a0_3 ((hx37.trans hx42).trans hx52)) (IntRow.mono hr_a0_5 ((hx37.trans hx42).trans hx52)) (RowS.mono hr_a0_6 ((hx37.trans hx42).trans hx52)) (IntRow.mono hr_a1_3 ((hx37.trans hx42).trans hx52)) (IntRow.mono hr_a1_5 ((hx37.trans hx42).trans hx52)) (RowS.mono hr_a1_6 ((hx37.trans hx42).trans hx52)))) ?_
          refine DL.pu 85 (.bool (!(q85 == t100))) rfl (p_neb ty_u4 rfl rfl rfl) ?_
          refine DL.nil ?_
          by_cases c103 : (!(q85 == t100)) = true
          ·
           have h104:=ite_true c103 h102
           refine TT.cond_true (x:=sub [1,1,1,1,1,1,0,1,0,1,1,0] B5) (y:=sub [1,1,1,1,1,1,0,1,0,1,1,1] B5) rfl c103 ?_
           refine TT.seq (x:=sub [1,1,1,1,1,1,0,1,0,1,1,0,0] B5) (y:=sub [1,1,1,1,1,1,0,1,0,1,1,0,1] B5) ?_
           refine TT.rg [0] [kp] rfl rfl ?_
           refine DL.pu 6 (.bool false) rfl (p_assign rfl rfl) ?_
           refine DL.nil ?_
           obtain rfl:=Option.some.inj h104
           exact retnE (rs:=[.tmp 6]) (vs:=[.bool false]) hE54.base Tryd.func5 rfl rfl rfl (res_cons (ResV.tmp rfl) res_nil) rfl
          ·
           replace c103:=Bool.eq_false_iff.mpr c103
           have h105:=ite_false c103 h102
           refine TT.cond_false (x:=sub [1,1,1,1,1,1,0,1,0,1,1,0] B5) (y:=sub [1,1,1,1,1,1,0,1,0,1,1,1] B5) rfl c103 ?_
           refine TT.skip ?_
           refine TT.seq (x:=sub [1,1,1,1,1,1,1,0] B5) (y:=sub [1,1,1,1,1,1,1,1] B5) ?_
           refine TT.rg [0,1,2,3,4,5,6,7] [kp,kk,kp,kp,kp,(.alloc,none),(.store,none),kp] rfl rfl ?_
           refine DL.mv 87 (a2_v) rfl rfl rfl ?_
           obtain ⟨⟨t106_0,t106_1⟩,h107,h108⟩:=bind_some h105
           refine DL.callF (G:=Value × Value × Value) (u:=fun g => .tuple #[.agg (Der.ce t106_0 (g.1) (g.2.1) (g.2.2)),.int .i64 t106_1]) (Q:=fun g M_ => (IntRow M_ .u8 (g.1) (Der.bytes t106_0)) ∧ (IntRow M_ .u64 (g.2.1) (Der.arcs t106_0)) ∧ (RowS ShDer M_ (g.2.2) (Tree.kids t106_0))) (A:=[(some b53,.cells ((Der.ce t49_0 t49_0_3 t49_0_5 t49_0_6)) 27 (0,0)),(some b2,.cells ((Der.ce a1 a1_3 a1_5 a1_6)) 27 (0,0)),(some b1,.cells ((Der.ce a0 a0_3 a0_5 a0_6)) 27 (0,0))]) (J:=[]) (fun J109 => ((some b53,.cells ((Der.ce t49_0 t49_0_3 t49_0_5 t49_0_6)) 27 (0,0)) :: (some b2,.cells ((Der.ce a1 a1_3 a1_5 a1_6)) 27 (0,0)) :: (some b1,.cells ((Der.ce a0 a0_3 a0_5 a0_6)) 27 (0,0)) :: J109)) (Nat.le_refl _) hE54.nil (List.append_nil _).symm (fun _ => rfl) (by simp) (i:=1) rfl (Wn.none rfl) rfl rfl rfl rfl rfl rfl (args_val (vs:=[a2_v]) rfl) (fun w => enter19 _ w) (fun w hc hI => der_Of.ok h107 (M:=M52) w hI (Glob.mono hG ((hx37.trans hx42).trans hx52)) (IntRow.mono hr_a2 ((hx37.trans hx42).trans hx52))) ?_
           rintro ⟨t106_0_3,t106_0_5,t106_0_6⟩ M109 J109 hE109 hx109 ⟨hr_t106_0_3,hr_t106_0_5,hr_t106_0_6⟩
           show DL _ _ _ _ _ _ _ _ _ _ _ _ ((some b53,.cells ((Der.ce t49_0 t49_0_3 t49_0_5 t49_0_6)) 27 (0,0)) :: (some b2,.cells ((Der.ce a1 a1_3 a1_5 a1_6)) 27 (0,0)) :: (some b1,.cells ((Der.ce a0 a0_3 a0_5 a0_6)) 27 (0,0)) :: J109)
           refine DL.mv 86 (.tuple #[.agg (Der.ce t106_0 t106_0_3 t106_0_5 t106_0_6),.int .i64 t106_1]) rfl rfl rfl ?_
           refine DL.pu 89 (.agg (Der.ce t106_0 t106_0_3 t106_0_5 t106_0_6)) rfl (p_extract rfl rfl rfl) ?_
           refine DL.pu 90 (.int .i64 t106_1) rfl (p_extract rfl rfl rfl) ?_
           refine DL.new (ob:=.cells (#[.int .i64 0,.bool false,.int .i64 0,(.slice none 0 0),str ([] : List UInt8),(.slice none 0 0),(.slice none 0 0)]) 27) (mk:=fun b => ptr b 0) (i:=5) rfl (Wn.none rfl) rfl rfl rfl (f_alloc ty_z27 rfl) ?_
           intro b110 hb110
           refine DL.put (H':=((some b110,.cells ((Der.ce t106_0 t106_0_3 t106_0_5 t106_0_6)) 27 (0,0)) :: (some b53,.cells ((Der.ce t49_0 t49_0_3 t49_0_5 t49_0_6)) 27 (0,0)) :: (some b2,.cells ((Der.ce a1 a1_3 a1_5 a1_6)) 27 (0,0)) :: (some b1,.cells ((Der.ce a0 a0_3 a0_5 a0_6)) 27 (0,0)) :: J109)) (i:=6) rfl (Wn.none rfl) rfl rfl (f_storeA (j:=0) ty_s27 rfl rfl rfl (one_cons trivial (one_cons trivial (one_cons trivial (one_cons (sl_one (RowV.sl hr_t106_0_3)) (one_cons trivial (one_cons (sl_one (RowV.sl hr_t106_0_5)) (one_cons (sl_one (RowS.sl hr_t106_0_6)) one_nil))))))) rfl rfl rfl) (keep_none rfl) ?_
           refine DL.pu 15 (.int .i64 t106_1) rfl (p_assign rfl rfl) ?_
           refine DL.nil ?_
           refine TT.settle (A:=[(some b110,.cells ((Der.ce t106_0 t106_0_3 t106_0_5 t106_0_6)) 27 (0,0)),(some b53,.cells ((Der.ce t49_0 t49_0_3 t49_0_5 t49_0_6)) 27 (0,0)),(some b2,.cells ((Der.ce a1 a1_3 a1_5 a1_6)) 27 (0,0)),(some b1,.cells ((Der.ce a0 a0_3 a0_5 a0_6)) 27 (0,0))]) (J:=J109) hE109 ?_
           intro I111 hE111 hxI111
           refine TT.seq (x:=sub [1,1,1,1,1,1,1,1,0] B5) (y:=sub [1,1,1,1,1,1,1,1,1] B5) ?_
           refine TT.seq (x:=sub [1,1,1,1,1,1,1,1,0,0] B5) (y:=sub [1,1,1,1,1,1,1,1,0,1] B5) ?_
           refine TT.rg [0,1,2] [kp,kq,kp] rfl rfl ?_
           refine DL.mv 91 (.int .i64 t106_1) rfl rfl rfl ?_
           obtain ⟨t112,h113,h114⟩:=bind_some h108
           refine DL.qu 92 (.int .i64 t112) rfl (f_callR rfl rfl (args_val (vs:=[.int .i64 t106_1]) rfl) (fun w => enter16 _ w) (fun w hc => law13_num.val h113 (M:=M109) w (hE111.ext hc) )) ?_
           refine DL.pu 93 (.bool (t112 != 0)) rfl (p_neq rfl rfl rfl) ?_
           refine DL.nil ?_
           by_cases c115 : (t112 != 0) = true
           ·
            have h116:=ite_true c115 h114
            refine TT.cond_true (x:=sub [1,1,1,1,1,1,1,1,0,1,0] B5) (y:=sub [1,1,1,1,1,1,1,1,0,1,1] B5) rfl c115 ?_
            refine TT.seq (x:=sub [1,1,1,1,1,1,1,1,0,1,0,0] B5) (y:=sub [1,1,1,1,1,1,1,1,0,1,0,1] B5) ?_
            refine TT.rg [0] [kp] rfl rfl ?_
            refine DL.pu 6 (.bool true) rfl (p_assign rfl rfl) ?_
            refine DL.nil ?_
            obtain rfl:=Option.some.inj h116
            exact retnE (rs:=[.tmp 6]) (vs:=[.bool true]) hE111.base Tryd.func5 rfl rfl rfl (res_cons (ResV.tmp rfl) res_nil) rfl
           ·
            replace c115:=Bool.eq_false_iff.mpr c115
            have h117:=ite_false c115 h114
            refine TT.cond_false (x:=sub [1,1,1,1,1,1,1,1,0,1,0] B5) (y:=sub [1,1,1,1,1,1,1,1,0,1,1] B5) rfl c115 ?_
            refine TT.skip ?_
            refine TT.seq (x:=sub [1,1,1,1,1,1,1,1,1,0] B5) (y:=sub [1,1,1,1,1,1,1,1,1,1] B5) ?_
            refine TT.rg [0,1,2,3,4,5,6] [kq,kk,kp,kp,kp,kp,kp] rfl rfl ?_
            refine DL.qu 95 (.agg (Der.ce t106_0 t106_0_3 t106_0_5 t106_0_6)) rfl (f_loadA (j:=0) ty_a27 ty_s27 rfl rfl rfl rfl) ?_
            obtain ⟨⟨t118_0,t118_1⟩,h119,h120⟩:=bind_some h117
            refine DL.callF (G:=Value) (u:=fun g => .tuple #[g,.int .i64 t118_1]) (Q:=fun g M_ => (IntRow M_ .u8 g t118_0)) (A:=[(some b110,.cells ((Der.ce t106_0 t106_0_3 t106_0_5 t106_0_6)) 27 (0,0)),(some b53,.cells ((Der.ce t49_0 t49_0_3 t49_0_5 t49_0_6)) 27 (0,0)),(some b2,.cells ((Der.ce a1 a1_3 a1_5 a1_6)) 27 (0,0)),(some b1,.cells ((Der.ce a0 a0_3 a0_5 a0_6)) 27 (0,0))]) (J:=[]) (fun J121 => ((some b110,.cells ((Der.ce t106_0 t106_0_3 t106_0_5 t106_0_6)) 27 (0,0)) :: (some b53,.cells ((Der.ce t49_0 t49_0_3 t49_0_5 t49_0_6)) 27 (0,0)) :: (some b2,.cells ((Der.ce a1 a1_3 a1_5 a1_6)) 27 (0,0)) :: (some b1,.cells ((Der.ce a0 a0_3 a0_5 a0_6)) 27 (0,0)) :: J121)) (Nat.le_refl _) hE111.nil (List.append_nil _).symm (fun _ => rfl) (by simp) (i:=1) rfl (Wn.none rfl) rfl rfl rfl rfl rfl rfl (args_val (vs:=[.agg (Der.ce t106_0 t106_0_3 t106_0_5 t106_0_6)]) rfl) (fun w => enter12 _ w) (fun w hc hI => der_Bytes.ok h119 (M:=M109) w hI (Glob.mono hG (((hx37.trans hx42).trans hx52).trans hx109)) hr_t106_0_3 hr_t106_0_5 hr_t106_0_6) ?_
            rintro t118_0_v M121 J121 hE121 hx121 hr_t118_0
            show DL _ _ _ _ _ _ _ _ _ _ _ _ ((some b110,.cells ((Der.ce t106_0 t106_0_3 t106_0_5 t106_0_6)) 27 (0,0)) :: (some b53,.cells ((Der.ce t49_0 t49_0_3 t49_0_5 t49_0_6)) 27 (0,0)) :: (some b2,.cells ((Der.ce a1 a1_3 a1_5 a1_6)) 27 (0,0)) :: (some b1,.cells ((Der.ce a0 a0_3 a0_5 a0_6)) 27 (0,0)) :: J121)
            refine DL.mv 94 (.tuple #[t118_0_v,.int .i64 t118_1]) rfl rfl rfl ?_
            refine DL.pu 97 (t118_0_v) rfl (p_extract rfl rfl rfl) ?_
            refine DL.pu 98 (.int .i64 t118_1) rfl (p_extract rfl rfl rfl) ?_
            refine DL.pu 16 (t118_0_v) rfl (p_assign rfl rfl) ?_
            refine DL.pu 17 (.int .i64 t118_1) rfl (p_assign rfl rfl) ?_
            refine DL.nil ?_
            refine TT.settle (A:=[(some b110,.cells ((Der.ce t106_0 t106_0_3 t106_0_5 t106_0_6)) 27 (0,0)),(some b53,.cells ((Der.ce t49_0 t49_0_3 t49_0_5 t49_0_6)) 27 (0,0)),(some b2,.cells ((Der.ce a1 a1_3 a1_5 a1_6)) 27 (0,0)),(some b1,.cells ((Der.ce a0 a0_3 a0_5 a0_6)) 27 (0,0))]) (J:=J121) hE121 ?_
            intro I122 hE122 hxI122
            refine TT.seq (x:=sub [1,1,1,1,1,1,1,1,1,1,0] B5) (y:=sub [1,1,1,1,1,1,1,1,1,1,1] B5) ?_
            refine TT.rg [0,1,2,3,4,5,6,7,8,9,10,11,12,13,14] [kp,kq,kp,kp,kp,kp,kp,kp,kp,kp,kp,kq,kq,kp,kp] rfl rfl ?_
            refine DL.mv 99 (.int .i64 t118_1) rfl rfl rfl ?_
            obtain ⟨t123,h124,h125⟩:=bind_some h120
            refine DL.qu 100 (.int .i64 t123) rfl (f_callR rfl rfl (args_val (vs:=[.int .i64 t118_1]) rfl) (fun w => enter16 _ w) (fun w hc => law13_num.val h124 (M:=M121) w (hE122.ext hc) )) ?_
            refine DL.pu 101 (.bool (t123 == 0)) rfl (p_eql rfl rfl rfl) ?_
            refine DL.mv 102 (.bool (t123 == 0)) rfl rfl rfl ?_
            obtain ⟨q127,h128,h129⟩:=bind_some h125
            refine DL.cut [(14,ptr b110 0),(108,.bool q127)] [10,11,12,13,14] ?_ (fun J130 => ?_)
            ·
             refine DL.mv 109 (.bool q127) rfl rfl rfl ?_
             obtain ⟨q135,h136,h137⟩:=bind_some h129
             refine DL.cut [(112,.bool q135)] [14] ?_ (fun J138 => ?_)
             ·
              refine DL.pu 6 (.bool q135) rfl (p_assign rfl rfl) ?_
              refine DL.nil ?_
              obtain rfl:=Option.some.inj h137
              exact retnE (rs:=[.tmp 6]) (vs:=[.bool q135]) hE122.base Tryd.func5 rfl rfl rfl (res_cons (ResV.tmp rfl) res_nil) rfl
             ·
              by_cases c139 : q127 = true
              ·
               have h140:=ite_true c139 h136
               refine DL.quiet (v:=.agg (Der.ce t106_0 t106_0_3 t106_0_5 t106_0_6)) rfl (Wn.yes c139 rfl rfl rfl rfl) rfl rfl rfl (f_loadA (j:=0) ty_a27 ty_s27 rfl rfl rfl rfl) ?_
               obtain ⟨t141,h142,h143⟩:=bind_some h140
               refine DL.quiet (v:=.bool t141) rfl (Wn.yes c139 rfl rfl rfl rfl) rfl rfl rfl (f_callR rfl rfl (args_val (vs:=[.agg (Der.ce t106_0 t106_0_3 t106_0_5 t106_0_6)]) rfl) (fun w => enter14 _ w) (fun w hc => der_May.val h142 (M:=M121) w (hE122.ext hc) (Glob.mono hG ((((hx37.trans hx42).trans hx52).trans hx109).trans hx121)) (IntRow.mono hr_t106_0_3 hx121) (IntRow.mono hr_t106_0_5 hx121) (RowS.mono hr_t106_0_6 hx121))) ?_
               refine DL.pu 112 (.bool t141) rfl (p_pick_t c139 rfl rfl rfl) ?_
               obtain rfl:=Option.some.inj h143
               exact DL.weak J138 (Sub.cons rfl (Sub.nil _))
              ·
               replace c139:=Bool.eq_false_iff.mpr c139
               have h144:=ite_false c139 h136
               refine DL.not (i:=11) rfl (Wn.no c139 rfl rfl rfl rfl) rfl rfl ?_
               refine DL.not (i:=12) rfl (Wn.no c139 rfl rfl rfl rfl) rfl rfl ?_
               refine DL.pu 112 (.bool false) rfl (p_pick_f c139 rfl rfl rfl) ?_
               obtain rfl:=Option.some.inj h144
               exact DL.weak J138 (Sub.cons rfl (Sub.nil _))
            ·
             by_cases c131 : (t123 == 0) = true
             ·
              have h132:=ite_true c131 h128
              refine DL.pure (v:=t118_0_v) rfl (Wn.yes c131 rfl rfl rfl rfl) rfl rfl rfl (p_move rfl rfl) ?_
              refine DL.imm (v:=str (bytesL t118_0)) rfl (Wn.yes c131 rfl rfl rfl rfl) rfl rfl rfl (i_bytesStr ty_us23 ty_us5 ty_us9 (IntRow.mono hr_t118_0 hE122.mi) rfl rfl) ?_
              refine DL.pure (v:=a2_v) rfl (Wn.yes c131 rfl rfl rfl rfl) rfl rfl rfl (p_move rfl rfl) ?_
              refine DL.imm (v:=str (bytesL a2)) rfl (Wn.yes c131 rfl rfl rfl rfl) rfl rfl rfl (i_bytesStr ty_us23 ty_us5 ty_us9 (IntRow.mono (IntRow.mono hr_a2 ((((hx37.trans hx42).trans hx52).trans hx109).trans hx121)) hE122.mi) rfl rfl) ?_
              refine DL.pure (v:=.bool ((bytesL t118_0) == (bytesL a2))) rfl (Wn.yes c131 rfl rfl rfl rfl) rfl rfl rfl (p_strEq rfl rfl rfl) ?_
              refine DL.pu 108 (.bool ((bytesL t118_0) == (bytesL a2))) rfl (p_pick_t c131 rfl rfl rfl) ?_
              obtain rfl:=Option.some.inj h132
              exact DL.weak J130 (Sub.cons rfl (Sub.cons rfl (Sub.nil _)))
             ·
              replace c131:=Bool.eq_false_iff.mpr c131
              have h133:=ite_false c131 h128
              refine DL.not (i:=4) rfl (Wn.no c131 rfl rfl rfl rfl) rfl rfl ?_
              refine DL.not (i:=5) rfl (Wn.no c131 rfl rfl rfl rfl) rfl rfl ?_
              refine DL.not (i:=6) rfl (Wn.no c131 rfl rfl rfl rfl) rfl rfl ?_
              refine DL.not (i:=7) rfl (Wn.no c131 rfl rfl rfl rfl) rfl rfl ?_
              refine DL.not (i:=8) rfl (Wn.no c131 rfl rfl rfl rfl) rfl rfl ?_
              refine DL.pu 108 (.bool false) rfl (p_pick_f c131 rfl rfl rfl) ?_
              obtain rfl:=Option.some.inj h133
              exact DL.weak J130 (Sub.cons rfl (Sub.cons rfl (Sub.nil _)))
         ·
          by_cases c89 : t81 = true
          ·
           have h90:=ite_true c89 h86
           refine DL.pure (v:=t39_0_v) rfl (Wn.yes c89 rfl rfl rfl rfl) rfl rfl rfl (p_move rfl rfl) ?_
           refine DL.pure (v:=t34_0_v) rfl (Wn.yes c89 rfl rfl rfl rfl) rfl rfl rfl (p_move rfl rfl) ?_
           refine DL.pure (v:=.int .i64 (t34_0.length : Int)) rfl (Wn.yes c89 rfl rfl rfl rfl) rfl rfl rfl (p_slLen ty_u23 (RowV.sl (IntRow.mono hr_t34_0 (hx42.trans hx52))) rfl rfl) ?_
           obtain ⟨g92,h93⟩:=req_some h90
           obtain ⟨g94,h95⟩:=req_some h93
           obtain ⟨v91,v91_e⟩ : ∃ u,u = subsl t39_0_v 1 0 (t34_0.length : Int).toNat:=⟨_,rfl⟩
           have hr_v91 : IntRow M52 .u8 v91 (t39_0.take (t34_0.length : Int).toNat):=by rw [v91_e]; exact (IntRow.subH (IntRow.mono hr_t39_0 hx52) (toNat_le g94))
           refine DL.pure (v:=v91) rfl (Wn.yes c89 rfl rfl rfl rfl) rfl rfl rfl (by rw [v91_e]; exact p_subH ty_u23 ty_s5 (IntRow.mono hr_t39_0 hx52) g92 g94 rfl rfl rfl) ?_
           refine DL.quiet (v:=str (bytesL (t39_0.take (t34_0.length : Int).toNat))) rfl (Wn.yes c89 rfl rfl rfl rfl) rfl rfl rfl (q_bytesStr ty_us23 ty_us5 ty_us9 (fun w hc => RowV.mono hr_v91 (hE54.ext hc)) rfl rfl) ?_
           refine DL.pure (v:=t34_0_v) rfl (Wn.yes c89 rfl rfl rfl rfl) rfl rfl rfl (p_move rfl rfl) ?_
           refine DL.imm (v:=str (bytesL t34_0)) rfl (Wn.yes c89 rfl rfl rfl rfl) rfl rfl rfl (i_bytesStr ty_us23 ty_us5 ty_us9 (IntRow.mono (IntRow.mono hr_t34_0 (hx42.trans hx52)) hE54.mi) rfl rfl) ?_
           obtain ⟨t96,e97,h98⟩:=nm_some h95
           refine DL.pure (v:=.bool t96) rfl (Wn.yes c89 rfl rfl rfl rfl) rfl rfl rfl (by rw [e97]; exact p_strEq rfl rfl rfl) ?_
           refine DL.pu 80 (.bool t96) rfl (p_pick_t c89 rfl rfl rfl) ?_
           obtain rfl:=Option.some.inj h98
           exact DL.weak J88 (Sub.cons rfl (Sub.cons rfl (Sub.cons rfl (Sub.cons rfl (Sub.nil _)))))
          ·
           replace c89:=Bool.eq_false_iff.mpr c89
           have h99:=ite_false c89 h86
           refine DL.not (i:=6) rfl (Wn.no c89 rfl rfl rfl rfl) rfl rfl ?_
           refine DL.not (i:=7) rfl (Wn.no c89 rfl rfl rfl rfl) rfl rfl ?_
           refine DL.not (i:=8) rfl (Wn.no c89 rfl rfl rfl rfl) rfl rfl ?_
           refine DL.not (i:=9) rfl (Wn.no c89 rfl rfl rfl rfl) rfl rfl ?_
           refine DL.not (i:=10) rfl (Wn.no c89 rfl rfl rfl rfl) rfl rfl ?_
           refine DL.not (i:=11) rfl (Wn.no c89 rfl rfl rfl rfl) rfl rfl ?_
           refine DL.not (i:=12) rfl (Wn.no c89 rfl rfl rfl rfl) rfl rfl ?_
           refine DL.not (i:=13) rfl (Wn.no c89 rfl rfl rfl rfl) rfl rfl ?_
           refine DL.pu 80 (.bool false) rfl (p_pick_f c89 rfl rfl rfl) ?_
           obtain rfl:=Option.some.inj h99
           exact DL.weak J88 (Sub.cons rfl (Sub.cons rfl (Sub.cons rfl (Sub.cons rfl (Sub.nil _)))))
        ·
         replace c78:=Bool.eq_false_iff.mpr c78
         have h145:=ite_false c78 h77
         refine TT.cond_false (x:=sub [1,1,1,1,1,1,0,1,0] B5) (y:=sub [1,1,1,1,1,1,0,1,1] B5) rfl c78 ?_
         refine TT.skip ?_
         refine TT.seq (x:=sub [1,1,1,1,1,1,1,0] B5) (y:=sub [1,1,1,1,1,1,1,1] B5) ?_
         refine TT.rg [0,1,2,3,4,5,6,7] [kp,kk,kp,kp,kp,(.alloc,none),(.store,none),kp] rfl rfl ?_
         refine DL.mv 87 (a2_v) rfl rfl rfl ?_
         obtain ⟨⟨t146_0,t146_1⟩,h147,h148⟩:=bind_some h145
         refine DL.callF (G:=Value × Value × Value) (u:=fun g => .tuple #[.agg (Der.ce t146_0 (g.1) (g.2.1) (g.2.2)),.int .i64 t146_1]) (Q:=fun g M_ => (IntRow M_ .u8 (g.1) (Der.bytes t146_0)) ∧ (IntRow M_ .u64 (g.2.1) (Der.arcs t146_0)) ∧ (RowS ShDer M_ (g.2.2) (Tree.kids t146_0))) (A:=[(some b53,.cells ((Der.ce t49_0 t49_0_3 t49_0_5 t49_0_6)) 27 (0,0)),(some b2,.cells ((Der.ce a1 a1_3 a1_5 a1_6)) 27 (0,0)),(some b1,.cells ((Der.ce a0 a0_3 a0_5 a0_6)) 27 (0,0))]) (J:=[]) (fun J149 => ((some b53,.cells ((Der.ce t49_0 t49_0_3 t49_0_5 t49_0_6)) 27 (0,0)) :: (some b2,.cells ((Der.ce a1 a1_3 a1_5 a1_6)) 27 (0,0)) :: (some b1,.cells ((Der.ce a0 a0_3 a0_5 a0_6)) 27 (0,0)) :: J149)) (Nat.le_refl _) hE54.nil (List.append_nil _).symm (fun _ => rfl) (by simp) (i:=1) rfl (Wn.none rfl) rfl rfl rfl rfl rfl rfl (args_val (vs:=[a2_v]) rfl) (fun w => enter19 _ w) (fun w hc hI => der_Of.ok h147 (M:=M52) w hI (Glob.mono hG ((hx37.trans hx42).trans hx52)) (IntRow.mono hr_a2 ((hx37.trans hx42).trans hx52))) ?_
         rintro ⟨t146_0_3,t146_0_5,t146_0_6⟩ M149 J149 hE149 hx149 ⟨hr_t146_0_3,hr_t146_0_5,hr_t146_0_6⟩
         show DL _ _ _ _ _ _ _ _ _ _ _ _ ((some b53,.cells ((Der.ce t49_0 t49_0_3 t49_0_5 t49_0_6)) 27 (0,0)) :: (some b2,.cells ((Der.ce a1 a1_3 a1_5 a1_6)) 27 (0,0)) :: (some b1,.cells ((Der.ce a0 a0_3 a0_5 a0_6)) 27 (0,0)) :: J149)
         refine DL.mv 86 (.tuple #[.agg (Der.ce t146_0 t146_0_3 t146_0_5 t146_0_6),.int .i64 t146_1]) rfl rfl rfl ?_
         refine DL.pu 89 (.agg (Der.ce t146_0 t146_0_3 t146_0_5 t146_0_6)) rfl (p_extract rfl rfl rfl) ?_
         refine DL.pu 90 (.int .i64 t146_1) rfl (p_extract rfl rfl rfl) ?_
         refine DL.new (ob:=.cells (#[.int .i64 0,.bool false,.int .i64 0,(.slice none 0 0),str ([] : List UInt8),(.slice none 0 0),(.slice none 0 0)]) 27) (mk:=fun b => ptr b 0) (i:=5) rfl (Wn.none rfl) rfl rfl rfl (f_alloc ty_z27 rfl) ?_
         intro b150 hb150
         refine DL.put (H':=((some b150,.cells ((Der.ce t146_0 t146_0_3 t146_0_5 t146_0_6)) 27 (0,0)) :: (some b53,.cells ((Der.ce t49_0 t49_0_3 t49_0_5 t49_0_6)) 27 (0,0)) :: (some b2,.cells ((Der.ce a1 a1_3 a1_5 a1_6)) 27 (0,0)) :: (some b1,.cells ((Der.ce a0 a0_3 a0_5 a0_6)) 27 (0,0)) :: J149)) (i:=6) rfl (Wn.none rfl) rfl rfl (f_storeA (j:=0) ty_s27 rfl rfl rfl (one_cons trivial (one_cons trivial (one_cons trivial (one_cons (sl_one (RowV.sl hr_t146_0_3)) (one_cons trivial (one_cons (sl_one (RowV.sl hr_t146_0_5)) (one_cons (sl_one (RowS.sl hr_t146_0_6)) one_nil))))))) rfl rfl rfl) (keep_none rfl) ?_
         refine DL.pu 15 (.int .i64 t146_1) rfl (p_assign rfl rfl) ?_
         refine DL.nil ?_
         refine TT.settle (A:=[(some b150,.cells ((Der.ce t146_0 t146_0_3 t146_0_5 t146_0_6)) 27 (0,0)),(some b53,.cells ((Der.ce t49_0 t49_0_3 t49_0_5 t49_0_6)) 27 (0,0)),(some b2,.cells ((Der.ce a1 a1_3 a1_5 a1_6)) 27 (0,0)),(some b1,.cells ((Der.ce a0 a0_3 a0_5 a0_6)) 27 (0,0))]) (J:=J149) hE149 ?_
         intro I151 hE151 hxI151
         refine TT.seq (x:=sub [1,1,1,1,1,1,1,1,0] B5) (y:=sub [1,1,1,1,1,1,1,1,1] B5) ?_
         refine TT.seq (x:=sub [1,1,1,1,1,1,1,1,0,0] B5) (y:=sub [1,1,1,1,1,1,1,1,0,1] B5) ?_
         refine TT.rg [0,1,2] [kp,kq,kp] rfl rfl ?_
         refine DL.mv 91 (.int .i64 t146_1) rfl rfl rfl ?_
         obtain ⟨t152,h153,h154⟩:=bind_some h148
         refine DL.qu 92 (.int .i64 t152) rfl (f_callR rfl rfl (args_val (vs:=[.int .i64 t146_1]) rfl) (fun w => enter16 _ w) (fun w hc => law13_num.val h153 (M:=M149) w (hE151.ext hc) )) ?_
         refine DL.pu 93 (.bool (t152 != 0)) rfl (p_neq rfl rfl rfl) ?_
         refine DL.nil ?_
         by_cases c155 : (t152 != 0) = true
         ·
          have h156:=ite_true c155 h154
          refine TT.cond_true (x:=sub [1,1,1,1,1,1,1,1,0,1,0] B5) (y:=sub [1,1,1,1,1,1,1,1,0,1,1] B5) rfl c155 ?_
          refine TT.seq (x:=sub [1,1,1,1,1,1,1,1,0,1,0,0] B5) (y:=sub [1,1,1,1,1,1,1,1,0,1,0,1] B5) ?_
          refine TT.rg [0] [kp] rfl rfl ?_
          refine DL.pu 6 (.bool true) rfl (p_assign rfl rfl) ?_
          refine DL.nil ?_
          obtain rfl:=Option.some.inj h156
          exact retnE (rs:=[.tmp 6]) (vs:=[.bool true]) hE151.base Tryd.func5 rfl rfl rfl (res_cons (ResV.tmp rfl) res_nil) rfl
         ·
          replace c155:=Bool.eq_false_iff.mpr c155
          have h157:=ite_false c155 h154
          refine TT.cond_false (x:=sub [1,1,1,1,1,1,1,1,0,1,0] B5) (y:=sub [1,1,1,1,1,1,1,1,0,1,1] B5) rfl c155 ?_
          refine TT.skip ?_
          refine TT.seq (x:=sub [1,1,1,1,1,1,1,1,1,0] B5) (y:=sub [1,1,1,1,1,1,1,1,1,1] B5) ?_
          refine TT.rg [0,1,2,3,4,5,6] [kq,kk,kp,kp,kp,kp,kp] rfl rfl ?_
          refine DL.qu 95 (.agg (Der.ce t146_0 t146_0_3 t146_0_5 t146_0_6)) rfl (f_loadA (j:=0) ty_a27 ty_s27 rfl rfl rfl rfl) ?_
          obtain ⟨⟨t158_0,t158_1⟩,h159,h160⟩:=bind_some h157
          refine DL.callF (G:=Value) (u:=fun g => .tuple #[g,.int .i64 t158_1]) (Q:=fun g M_ => (IntRow M_ .u8 g t158_0)) (A:=[(some b150,.cells ((Der.ce t146_0 t146_0_3 t146_0_5 t146_0_6)) 27 (0,0)),(some b53,.cells ((Der.ce t49_0 t49_0_3 t49_0_5 t49_0_6)) 27 (0,0)),(some b2,.cells ((Der.ce a1 a1_3 a1_5 a1_6)) 27 (0,0)),(some b1,.cells ((Der.ce a0 a0_3 a0_5 a0_6)) 27 (0,0))]) (J:=[]) (fun J161 => ((some b150,.cells ((Der.ce t146_0 t146_0_3 t146_0_5 t146_0_6)) 27 (0,0)) :: (some b53,.cells ((Der.ce t49_0 t49_0_3 t49_0_5 t49_0_6)) 27 (0,0)) :: (some b2,.cells ((Der.ce a1 a1_3 a1_5 a1_6)) 27 (0,0)) :: (some b1,.cells ((Der.ce a0 a0_3 a0_5 a0_6)) 27 (0,0)) :: J161)) (Nat.le_refl _) hE151.nil (List.append_nil _).symm (fun _ => rfl) (by simp) (i:=1) rfl (Wn.none rfl) rfl rfl rfl rfl rfl rfl (args_val (vs:=[.agg (Der.ce t146_0 t146_0_3 t146_0_5 t146_0_6)]) rfl) (fun w => enter12 _ w) (fun w hc hI => der_Bytes.ok h159 (M:=M149) w hI (Glob.mono hG (((hx37.trans hx42).trans hx52).trans hx149)) hr_t146_0_3 hr_t146_0_5 hr_t146_0_6) ?_
          rintro t158_0_v M161 J161 hE161 hx161 hr_t158_0
          show DL _ _ _ _ _ _ _ _ _ _ _ _ ((some b150,.cells ((Der.ce t146_0 t146_0_3 t146_0_5 t146_0_6)) 27 (0,0)) :: (some b53,.cells ((Der.ce t49_0 t49_0_3 t49_0_5 t49_0_6)) 27 (0,0)) :: (some b2,.cells ((Der.ce a1 a1_3 a1_5 a1_6)) 27 (0,0)) :: (some b1,.cells ((Der.ce a0 a0_3 a0_5 a0_6)) 27 (0,0)) :: J161)
          refine DL.mv 94 (.tuple #[t158_0_v,.int .i64 t158_1]) rfl rfl rfl ?_
          refine DL.pu 97 (t158_0_v) rfl (p_extract rfl rfl rfl) ?_
          refine DL.pu 98 (.int .i64 t158_1) rfl (p_extract rfl rfl rfl) ?_
          refine DL.pu 16 (t158_0_v) rfl (p_assign rfl rfl) ?_
          refine DL.pu 17 (.int .i64 t158_1) rfl (p_assign rfl rfl) ?_
          refine DL.nil ?_
          refine TT.settle (A:=[(some b150,.cells ((Der.ce t146_0 t146_0_3 t146_0_5 t146_0_6)) 27 (0,0)),(some b53,.cells ((Der.ce t49_0 t49_0_3 t49_0_5 t49_0_6)) 27 (0,0)),(some b2,.cells ((Der.ce a1 a1_3 a1_5 a1_6)) 27 (0,0)),(some b1,.cells ((Der.ce a0 a0_3 a0_5 a0_6)) 27 (0,0))]) (J:=J161) hE161 ?_
          intro I162 hE162 hxI162
          refine TT.seq (x:=sub [1,1,1,1,1,1,1,1,1,1,0] B5) (y:=sub [1,1,1,1,1,1,1,1,1,1,1] B5) ?_
          refine TT.rg [0,1,2,3,4,5,6,7,8,9,10,11,12,13,14] [kp,kq,kp,kp,kp,kp,kp,kp,kp,kp,kp,kq,kq,kp,kp] rfl rfl ?_
          refine DL.mv 99 (.int .i64 t158_1) rfl rfl rfl ?_
          obtain ⟨t163,h164,h165⟩:=bind_some h160
          refine DL.qu 100 (.int .i64 t163) rfl (f_callR rfl rfl (args_val (vs:=[.int .i64 t158_1]) rfl) (fun w => enter16 _ w) (fun w hc => law13_num.val h164 (M:=M161) w (hE162.ext hc) )) ?_
          refine DL.pu 101 (.bool (t163 == 0)) rfl (p_eql rfl rfl rfl) ?_
          refine DL.mv 102 (.bool (t163 == 0)) rfl rfl rfl ?_
          obtain ⟨q167,h168,h169⟩:=bind_some h165
          refine DL.cut [(14,ptr b150 0),(108,.bool q167)] [10,11,12,13,14] ?_ (fun J170 => ?_)
          ·
           refine DL.mv 109 (.bool q167) rfl rfl rfl ?_
           obtain ⟨q175,h176,h177⟩:=bind_some h169
           refine DL.cut [(112,.bool q175)] [14] ?_ (fun J178 => ?_)
           ·
            refine DL.pu 6 (.bool q175) rfl (p_assign rfl rfl) ?_
            refine DL.nil ?_
            obtain rfl:=Option.some.inj h177
            exact retnE (rs:=[.tmp 6]) (vs:=[.bool q175]) hE162.base Tryd.func5 rfl rfl rfl (res_cons (ResV.tmp rfl) res_nil) rfl
           ·
            by_cases c179 : q167 = true
            ·
             have h180:=ite_true c179 h176
             refine DL.quiet (v:=.agg (Der.ce t146_0 t146_0_3 t146_0_5 t146_0_6)) rfl (Wn.yes c179 rfl rfl rfl rfl) rfl rfl rfl (f_loadA (j:=0) ty_a27 ty_s27 rfl rfl rfl rfl) ?_
             obtain ⟨t181,h182,h183⟩:=bind_some h180
             refine DL.quiet (v:=.bool t181) rfl (Wn.yes c179 rfl rfl rfl rfl) rfl rfl rfl (f_callR rfl rfl (args_val (vs:=[.agg (Der.ce t146_0 t146_0_3 t146_0_5 t146_0_6)]) rfl) (fun w => enter14 _ w) (fun w hc => der_May.val h182 (M:=M161) w (hE162.ext hc) (Glob.mono hG ((((hx37.trans hx42).trans hx52).trans hx149).trans hx161)) (IntRow.mono hr_t146_0_3 hx161) (IntRow.mono hr_t146_0_5 hx161) (RowS.mono hr_t146_0_6 hx161))) ?_
             refine DL.pu 112 (.bool t181) rfl (p_pick_t c179 rfl rfl rfl) ?_
             obtain rfl:=Option.some.inj h183
             exact DL.weak J178 (Sub.cons rfl (Sub.nil _))
            ·
             replace c179:=Bool.eq_false_iff.mpr c179
             have h184:=ite_false c179 h176
             refine DL.not (i:=11) rfl (Wn.no c179 rfl rfl rfl rfl) rfl rfl ?_
             refine DL.not (i:=12) rfl (Wn.no c179 rfl rfl rfl rfl) rfl rfl ?_
             refine DL.pu 112 (.bool false) rfl (p_pick_f c179 rfl rfl rfl) ?_
             obtain rfl:=Option.some.inj h184
             exact DL.weak J178 (Sub.cons rfl (Sub.nil _))
          ·
           by_cases c171 : (t163 == 0) = true
           ·
            have h172:=ite_true c171 h168
            refine DL.pure (v:=t158_0_v) rfl (Wn.yes c171 rfl rfl rfl rfl) rfl rfl rfl (p_move rfl rfl) ?_
            refine DL.imm (v:=str (bytesL t158_0)) rfl (Wn.yes c171 rfl rfl rfl rfl) rfl rfl rfl (i_bytesStr ty_us23 ty_us5 ty_us9 (IntRow.mono hr_t158_0 hE162.mi) rfl rfl) ?_
            refine DL.pure (v:=a2_v) rfl (Wn.yes c171 rfl rfl rfl rfl) rfl rfl rfl (p_move rfl rfl) ?_
            refine DL.imm (v:=str (bytesL a2)) rfl (Wn.yes c171 rfl rfl rfl rfl) rfl rfl rfl (i_bytesStr ty_us23 ty_us5 ty_us9 (IntRow.mono (IntRow.mono hr_a2 ((((hx37.trans hx42).trans hx52).trans hx149).trans hx161)) hE162.mi) rfl rfl) ?_
            refine DL.pure (v:=.bool ((bytesL t158_0) == (bytesL a2))) rfl (Wn.yes c171 rfl rfl rfl rfl) rfl rfl rfl (p_strEq rfl rfl rfl) ?_
            refine DL.pu 108 (.bool ((bytesL t158_0) == (bytesL a2))) rfl (p_pick_t c171 rfl rfl rfl) ?_
            obtain rfl:=Option.some.inj h172
            exact DL.weak J170 (Sub.cons rfl (Sub.cons rfl (Sub.nil _)))
           ·
            replace c171:=Bool.eq_false_iff.mpr c171
            have h173:=ite_false c171 h168
            refine DL.not (i:=4) rfl (Wn.no c171 rfl rfl rfl rfl) rfl rfl ?_
            refine DL.not (i:=5) rfl (Wn.no c171 rfl rfl rfl rfl) rfl rfl ?_
            refine DL.not (i:=6) rfl (Wn.no c171 rfl rfl rfl rfl) rfl rfl ?_
            refine DL.not (i:=7) rfl (Wn.no c171 rfl rfl rfl rfl) rfl rfl ?_
            refine DL.not (i:=8) rfl (Wn.no c171 rfl rfl rfl rfl) rfl rfl ?_
            refine DL.pu 108 (.bool false) rfl (p_pick_f c171 rfl rfl rfl) ?_
            obtain rfl:=Option.some.inj h173
            exact DL.weak J170 (Sub.cons rfl (Sub.cons rfl (Sub.nil _)))
      ·
       by_cases c63 : (t55 != 0) = true
       ·
        have h64:=ite_true c63 h60
        refine DL.not (i:=4) rfl (Wn.yes c63 rfl rfl rfl rfl) rfl rfl ?_
        refine DL.not (i:=5) rfl (Wn.yes c63 rfl rfl rfl rfl) rfl rfl ?_
        refine DL.not (i:=6) rfl (Wn.yes c63 rfl rfl rfl rfl) rfl rfl ?_
        refine DL.not (i:=7) rfl (Wn.yes c63 rfl rfl rfl rfl) rfl rfl ?_
        refine DL.pu 59 (.bool true) rfl (p_pick_t c63 rfl rfl rfl) ?_
        obtain rfl:=Option.some.inj h64
        exact DL.weak J62 (Sub.cons rfl (Sub.cons rfl (Sub.cons rfl (Sub.cons rfl (Sub.cons rfl (Sub.cons rfl (Sub.cons rfl (Sub.cons rfl (Sub.nil _)))))))))
       ·
        replace c63:=Bool.eq_false_iff.mpr c63
        have h65:=ite_false c63 h60
        refine DL.quiet (v:=.agg (Der.ce t49_0 t49_0_3 t49_0_5 t49_0_6)) rfl (Wn.no c63 rfl rfl rfl rfl) rfl rfl rfl (f_loadA (j:=0) ty_a27 ty_s27 rfl rfl rfl rfl) ?_
        refine DL.quiet (v:=.agg (Der.ce a0 a0_3 a0_5 a0_6)) rfl (Wn.no c63 rfl rfl rfl rfl) rfl rfl rfl (f_loadA (j:=2) ty_a27 ty_s27 rfl rfl rfl rfl) ?_
        obtain ⟨t66,h67,h68⟩:=bind_some h65
        refine DL.quiet (v:=.bool t66) rfl (Wn.no c63 rfl rfl rfl rfl) rfl rfl rfl (f_callR rfl rfl (args_val (vs:=[.agg (Der.ce t49_0 t49_0_3 t49_0_5 t49_0_6),.agg (Der.ce a0 a0_3 a0_5 a0_6)]) rfl) (fun w => enter18 _ w) (fun w hc => ref13_Same.val h67 (M:=M52) w (hE54.ext hc) hr_t49_0_3 hr_t49_0_5 hr_t49_0_6 (IntRow.mono hr_a0_3 ((hx37.trans hx42).trans hx52)) (IntRow.mono hr_a0_5 ((hx37.trans hx42).trans hx52)) (RowS.mono hr_a0_6 ((hx37.trans hx42).trans hx52)))) ?_
        refine DL.pure (v:=.bool (!t66)) rfl (Wn.no c63 rfl rfl rfl rfl) rfl rfl rfl (p_not rfl rfl) ?_
        refine DL.pu 59 (.bool (!t66)) rfl (p_pick_f c63 rfl rfl rfl) ?_
        obtain rfl:=Option.some.inj h68
        exact DL.weak J62 (Sub.cons rfl (Sub.cons rfl (Sub.cons rfl (Sub.cons rfl (Sub.cons rfl (Sub.cons rfl (Sub.cons rfl (Sub.cons rfl (Sub.nil _)))))))))
     ·
      replace c47:=Bool.eq_false_iff.mpr c47
      have h185:=ite_false c47 h46
      refine TT.cond_false (x:=sub [1,1,1,1,1,0,1,0] B5) (y:=sub [1,1,1,1,1,0,1,1] B5) rfl c47 ?_
      refine TT.skip ?_
      refine TT.seq (x:=sub [1,1,1,1,1,1,0] B5) (y:=sub [1,1,1,1,1,1,1] B5) ?_
      refine TT.seq (x:=sub [1,1,1,1,1,1,0,0] B5) (y:=sub [1,1,1,1,1,1,0,1] B5) ?_
      refine TT.rg [0,1,2,3,4,5] [kp,kq,kp,kq,kp,kp] rfl rfl ?_
      refine DL.mv 60 (.int .i64 t34_1) rfl rfl rfl ?_
      obtain ⟨t186,h187,h188⟩:=bind_some h185
      refine DL.qu 61 (.int .i64 t186) rfl (f_callR rfl rfl (args_val (vs:=[.int .i64 t34_1]) rfl) (fun w => enter16 _ w) (fun w hc => law13_num.val h187 (M:=M42) w (hE43.ext hc) )) ?_
      refine DL.mv 62 (.int .i64 t39_1) rfl rfl rfl ?_
      obtain ⟨t189,h190,h191⟩:=bind_some h188
      refine DL.qu 63 (.int .i64 t189) rfl (f_callR rfl rfl (args_val (vs:=[.int .i64 t39_1]) rfl) (fun w => enter16 _ w) (fun w hc => law13_num.val h190 (M:=M42) w (hE43.ext hc) )) ?_
      refine DL.pu 64 (.int .i64 (IntKind.i64.wrap (t186 + t189))) rfl (p_add rfl rfl rfl) ?_
      refine DL.pu 65 (.bool ((IntKind.i64.wrap (t186 + t189)) == 0)) rfl (p_eql rfl rfl rfl) ?_
      refine DL.nil ?_
      by_cases c192 : ((IntKind.i64.wrap (t186 + t189)) == 0) = true
      ·
       have h193:=ite_true c192 h191
       refine TT.cond_true (x:=sub [1,1,1,1,1,1,0,1,0] B5) (y:=sub [1,1,1,1,1,1,0,1,1] B5) rfl c192 ?_
       refine TT.seq (x:=sub [1,1,1,1,1,1,0,1,0,0] B5) (y:=sub [1,1,1,1,1,1,0,1,0,1] B5) ?_
       refine TT.rgD [0,1,2,3,4,5,6,7,8,9,10,11,12,13,14,15] [0,1,0,4,15,31,63,63,191,511,1023,63,2111,8191,16383,32767] [kp,kp,kp,kp,kp,kp,kp,kp,kp,kp,kq,kp,kp,kp,kp,kp] rfl mixed (by kernel_rfl) ?_
       intro w194 hl194 hj194 hz194
       refine DL.mv 66 (t34_0_v) rfl rfl rfl ?_
       refine DL.pu 67 (.int .i64 (t34_0.length : Int)) rfl (p_slLen ty_u23 (RowV.sl (IntRow.mono hr_t34_0 hx42)) rfl rfl) ?_
       refine DL.mv 68 (t39_0_v) rfl rfl rfl ?_
       refine DL.pu 69 (.int .i64 (t39_0.length : Int)) rfl (p_slLen ty_u23 (RowV.sl hr_t39_0) rfl rfl) ?_
       obtain ⟨t195,e196,h197⟩:=nm_some h193
       refine DL.pu 70 (.bool t195) rfl (by rw [e196]; exact p_leq rfl rfl rfl) ?_
       refine DL.mv 71 (.bool t195) rfl rfl rfl ?_
       obtain ⟨q199,h200,h201⟩:=bind_some h197
       refine DL.cut [(2,a2_v),(3,ptr b1 0),(4,ptr b2 0),(80,.bool q199)] [15] ?_ (fun J202 => ?_)
       ·
        refine DL.pu 13 (.bool q199) rfl (p_assign rfl rfl) ?_
        refine DL.nil' hl194 ?_
        refine TT.seq (x:=sub [1,1,1,1,1,1,0,1,0,1,0] B5) (y:=sub [1,1,1,1,1,1,0,1,0,1,1] B5) ?_
        refine TT.rg [0,1,2,3,4] [kp,kq,kq,kq,kp] rfl rfl ?_
        refine DL.mv 81 (.bool q199) rfl rfl rfl ?_
        refine DL.qu 82 (.agg (Der.ce a0 a0_3 a0_5 a0_6)) rfl (f_loadA (j:=1) ty_a27 ty_s27 rfl rfl rfl rfl) ?_
        refine DL.qu 83 (.agg (Der.ce a1 a1_3 a1_5 a1_6)) rfl (f_loadA (j:=0) ty_a27 ty_s27 rfl rfl rfl rfl) ?_
        obtain ⟨t214,h215,h216⟩:=bind_some h201
        refine DL.qu 84 (.bool t214) rfl (f_callR rfl rfl (args_val (vs:=[.agg (Der.ce a0 a0_3 a0_5 a0_6),.agg (Der.ce a1 a1_3 a1_5 a1_6)]) rfl) (fun w => enter18 _ w) (fun w hc => ref13_Same.val h215 (M:=M42) w (hE43.ext hc) (IntRow.mono hr_a0_3 (hx37.trans hx42)) (IntRow.mono hr_a0_5 (hx37.trans hx42)) (RowS.mono hr_a0_6 (hx37.trans hx42)) (IntRow.mono hr_a1_3 (hx37.trans hx42)) (IntRow.mono hr_a1_5 (hx37.trans hx42)) (RowS.mono hr_a1_6 (hx37.trans hx42)))) ?_
        refine DL.pu 85 (.bool (!(q199 == t214))) rfl (p_neb ty_u4 rfl rfl rfl) ?_
        refine DL.nil ?_
        by_cases c217 : (!(q199 == t214)) = true
        ·
         have h218:=ite_true c217 h216
         refine TT.cond_true (x:=sub [1,1,1,1,1,1,0,1,0,1,1,0] B5) (y:=sub [1,1,1,1,1,1,0,1,0,1,1,1] B5) rfl c217 ?_
         refine TT.seq (x:=sub [1,1,1,1,1,1,0,1,0,1,1,0,0] B5) (y:=sub [1,1,1,1,1,1,0,1,0,1,1,0,1] B5) ?_
         refine TT.rg [0] [kp] rfl rfl ?_
         refine DL.pu 6 (.bool false) rfl (p_assign rfl rfl) ?_
         refine DL.nil ?_
         obtain rfl:=Option.some.inj h218
         exact retnE (rs:=[.tmp 6]) (vs:=[.bool false]) hE43.base Tryd.func5 rfl rfl rfl (res_cons (ResV.tmp rfl) res_nil) rfl
        ·
         replace c217:=Bool.eq_false_iff.mpr c217
         have h219:=ite_false c217 h216
         refine TT.cond_false (x:=sub [1,1,1,1,1,1,0,1,0,1,1,0] B5) (y:=sub [1,1,1,1,1,1,0,1,0,1,1,1] B5) rfl c217 ?_
         refine TT.skip ?_
         refine TT.seq (x:=sub [1,1,1,1,1,1,1,0] B5) (y:=sub [1,1,1,1,1,1,1,1] B5) ?_
         refine TT.rg [0,1,2,3,4,5,6,7] [kp,kk,kp,kp,kp,(.alloc,none),(.store,none),kp] rfl rfl ?_
         refine DL.mv 87 (a2_v) rfl rfl rfl ?_
         obtain ⟨⟨t220_0,t220_1⟩,h221,h222⟩:=bind_some h219
         refine DL.callF (G:=Value × Value × Value) (u:=fun g => .tuple #[.agg (Der.ce t220_0 (g.1) (g.2.1) (g.2.2)),.int .i64 t220_1]) (Q:=fun g M_ => (IntRow M_ .u8 (g.1) (Der.bytes t220_0)) ∧ (IntRow M_ .u64 (g.2.1) (Der.arcs t220_0)) ∧ (RowS ShDer M_ (g.2.2) (Tree.kids t220_0))) (A:=[(some b2,.cells ((Der.ce a1 a1_3 a1_5 a1_6)) 27 (0,0)),(some b1,.cells ((Der.ce a0 a0_3 a0_5 a0_6)) 27 (0,0))]) (J:=[]) (fun J223 => ((some b2,.cells ((Der.ce a1 a1_3 a1_5 a1_6)) 27 (0,0)) :: (some b1,.cells ((Der.ce a0 a0_3 a0_5 a0_6)) 27 (0,0)) :: J223)) (Nat.le_refl _) hE43.nil (List.append_nil _).symm (fun _ => rfl) (by simp) (i:=1) rfl (Wn.none rfl) rfl rfl rfl rfl rfl rfl (args_val (vs:=[a2_v]) rfl) (fun w => enter19 _ w) (fun w hc hI => der_Of.ok h221 (M:=M42) w hI (Glob.mono hG (hx37.trans hx42)) (IntRow.mono hr_a2 (hx37.trans hx42))) ?_
         rintro ⟨t220_0_3,t220_0_5,t220_0_6⟩ M223 J223 hE223 hx223 ⟨hr_t220_0_3,hr_t220_0_5,hr_t220_0_6⟩
         show DL _ _ _ _ _ _ _ _ _ _ _ _ ((some b2,.cells ((Der.ce a1 a1_3 a1_5 a1_6)) 27 (0,0)) :: (some b1,.cells ((Der.ce a0 a0_3 a0_5 a0_6)) 27 (0,0)) :: J223)
         refine DL.mv 86 (.tuple #[.agg (Der.ce t220_0 t220_0_3 t220_0_5 t220_0_6),.int .i64 t220_1]) rfl rfl rfl ?_
         refine DL.pu 89 (.agg (Der.ce t220_0 t220_0_3 t220_0_5 t220_0_6)) rfl (p_extract rfl rfl rfl) ?_
         refine DL.pu 90 (.int .i64 t220_1) rfl (p_extract rfl rfl rfl) ?_
         refine DL.new (ob:=.cells (#[.int .i64 0,.bool false,.int .i64 0,(.slice none 0 0),str ([] : List UInt8),(.slice none 0 0),(.slice none 0 0)]) 27) (mk:=fun b => ptr b 0) (i:=5) rfl (Wn.none rfl) rfl rfl rfl (f_alloc ty_z27 rfl) ?_
         intro b224 hb224
         refine DL.put (H':=((some b224,.cells ((Der.ce t220_0 t220_0_3 t220_0_5 t220_0_6)) 27 (0,0)) :: (some b2,.cells ((Der.ce a1 a1_3 a1_5 a1_6)) 27 (0,0)) :: (some b1,.cells ((Der.ce a0 a0_3 a0_5 a0_6)) 27 (0,0)) :: J223)) (i:=6) rfl (Wn.none rfl) rfl rfl (f_storeA (j:=0) ty_s27 rfl rfl rfl (one_cons trivial (one_cons trivial (one_cons trivial (one_cons (sl_one (RowV.sl hr_t220_0_3)) (one_cons trivial (one_cons (sl_one (RowV.sl hr_t220_0_5)) (one_cons (sl_one (RowS.sl hr_t220_0_6)) one_nil))))))) rfl rfl rfl) (keep_none rfl) ?_
         refine DL.pu 15 (.int .i64 t220_1) rfl (p_assign rfl rfl) ?_
         refine DL.nil ?_
         refine TT.settle (A:=[(some b224,.cells ((Der.ce t220_0 t220_0_3 t220_0_5 t220_0_6)) 27 (0,0)),(some b2,.cells ((Der.ce a1 a1_3 a1_5 a1_6)) 27 (0,0)),(some b1,.cells ((Der.ce a0 a0_3 a0_5 a0_6)) 27 (0,0))]) (J:=J223) hE223 ?_
         intro I225 hE225 hxI225
         refine TT.seq (x:=sub [1,1,1,1,1,1,1,1,0] B5) (y:=sub [1,1,1,1,1,1,1,1,1] B5) ?_
         refine TT.seq (x:=sub [1,1,1,1,1,1,1,1,0,0] B5) (y:=sub [1,1,1,1,1,1,1,1,0,1] B5) ?_
         refine TT.rg [0,1,2] [kp,kq,kp] rfl rfl ?_
         refine DL.mv 91 (.int .i64 t220_1) rfl rfl rfl ?_
         obtain ⟨t226,h227,h228⟩:=bind_some h222
         refine DL.qu 92 (.int .i64 t226) rfl (f_callR rfl rfl (args_val (vs:=[.int .i64 t220_1]) rfl) (fun w => enter16 _ w) (fun w hc => law13_num.val h227 (M:=M223) w (hE225.ext hc) )) ?_
         refine DL.pu 93 (.bool (t226 != 0)) rfl (p_neq rfl rfl rfl) ?_
         refine DL.nil ?_
         by_cases c229 : (t226 != 0) = true
         ·
          have h230:=ite_true c229 h228
          refine TT.cond_true (x:=sub [1,1,1,1,1,1,1,1,0,1,0] B5) (y:=sub [1,1,1,1,1,1,1,1,0,1,1] B5) rfl c229 ?_
          refine TT.seq (x:=sub [1,1,1,1,1,1,1,1,0,1,0,0] B5) (y:=sub [1,1,1,1,1,1,1,1,0,1,0,1] B5) ?_
          refine TT.rg [0] [kp] rfl rfl ?_
          refine DL.pu 6 (.bool true) rfl (p_assign rfl rfl) ?_
          refine DL.nil ?_
          obtain rfl:=Option.some.inj h230
          exact retnE (rs:=[.tmp 6]) (vs:=[.bool true]) hE225.base Tryd.func5 rfl rfl rfl (res_cons (ResV.tmp rfl) res_nil) rfl
         ·
          replace c229:=Bool.eq_false_iff.mpr c229
          have h231:=ite_false c229 h228
          refine TT.cond_false (x:=sub [1,1,1,1,1,1,1,1,0,1,0] B5) (y:=sub [1,1,1,1,1,1,1,1,0,1,1] B5) rfl c229 ?_
          refine TT.skip ?_
          refine TT.seq (x:=sub [1,1,1,1,1,1,1,1,1,0] B5) (y:=sub [1,1,1,1,1,1,1,1,1,1] B5) ?_
          refine TT.rg [0,1,2,3,4,5,6] [kq,kk,kp,kp,kp,kp,kp] rfl rfl ?_
          refine DL.qu 95 (.agg (Der.ce t220_0 t220_0_3 t220_0_5 t220_0_6)) rfl (f_loadA (j:=0) ty_a27 ty_s27 rfl rfl rfl rfl) ?_
          obtain ⟨⟨t232_0,t232_1⟩,h233,h234⟩:=bind_some h231
          refine DL.callF (G:=Value) (u:=fun g => .tuple #[g,.int .i64 t232_1]) (Q:=fun g M_ => (IntRow M_ .u8 g t232_0)) (A:=[(some b224,.cells ((Der.ce t220_0 t220_0_3 t220_0_5 t220_0_6)) 27 (0,0)),(some b2,.cells ((Der.ce a1 a1_3 a1_5 a1_6)) 27 (0,0)),(some b1,.cells ((Der.ce a0 a0_3 a0_5 a0_6)) 27 (0,0))]) (J:=[]) (fun J235 => ((some b224,.cells ((Der.ce t220_0 t220_0_3 t220_0_5 t220_0_6)) 27 (0,0)) :: (some b2,.cells ((Der.ce a1 a1_3 a1_5 a1_6)) 27 (0,0)) :: (some b1,.cells ((Der.ce a0 a0_3 a0_5 a0_6)) 27 (0,0)) :: J235)) (Nat.le_refl _) hE225.nil (List.append_nil _).symm (fun _ => rfl) (by simp) (i:=1) rfl (Wn.none rfl) rfl rfl rfl rfl rfl rfl (args_val (vs:=[.agg (Der.ce t220_0 t220_0_3 t220_0_5 t220_0_6)]) rfl) (fun w => enter12 _ w) (fun w hc hI => der_Bytes.ok h233 (M:=M223) w hI (Glob.mono hG ((hx37.trans hx42).trans hx223)) hr_t220_0_3 hr_t220_0_5 hr_t220_0_6) ?_
          rintro t232_0_v M235 J235 hE235 hx235 hr_t232_0
          show DL _ _ _ _ _ _ _ _ _ _ _ _ ((some b224,.cells ((Der.ce t220_0 t220_0_3 t220_0_5 t220_0_6)) 27 (0,0)) :: (some b2,.cells ((Der.ce a1 a1_3 a1_5 a1_6)) 27 (0,0)) :: (some b1,.cells ((Der.ce a0 a0_3 a0_5 a0_6)) 27 (0,0)) :: J235)
          refine DL.mv 94 (.tuple #[t232_0_v,.int .i64 t232_1]) rfl rfl rfl ?_
          refine DL.pu 97 (t232_0_v) rfl (p_extract rfl rfl rfl) ?_
          refine DL.pu 98 (.int .i64 t232_1) rfl (p_extract rfl rfl rfl) ?_
          refine DL.pu 16 (t232_0_v) rfl (p_assign rfl rfl) ?_
          refine DL.pu 17 (.int .i64 t232_1) rfl (p_assign rfl rfl) ?_
          refine DL.nil ?_
          refine TT.settle (A:=[(some b224,.cells ((Der.ce t220_0 t220_0_3 t220_0_5 t220_0_6)) 27 (0,0)),(some b2,.cells ((Der.ce a1 a1_3 a1_5 a1_6)) 27 (0,0)),(some b1,.cells ((Der.ce a0 a0_3 a0_5 a0_6)) 27 (0,0))]) (J:=J235) hE235 ?_
          intro I236 hE236 hxI236
          refine TT.seq (x:=sub [1,1,1,1,1,1,1,1,1,1,0] B5) (y:=sub [1,1,1,1,1,1,1,1,1,1,1] B5) ?_
          refine TT.rg [0,1,2,3,4,5,6,7,8,9,10,11,12,13,14] [kp,kq,kp,kp,kp,kp,kp,kp,kp,kp,kp,kq,kq,kp,kp] rfl rfl ?_
          refine DL.mv 99 (.int .i64 t232_1) rfl rfl rfl ?_
          obtain ⟨t237,h238,h239⟩:=bind_some h234
          refine DL.qu 100 (.int .i64 t237) rfl (f_callR rfl rfl (args_val (vs:=[.int .i64 t232_1]) rfl) (fun w => enter16 _ w) (fun w hc => law13_num.val h238 (M:=M235) w (hE236.ext hc) )) ?_
          refine DL.pu 101 (.bool (t237 == 0)) rfl (p_eql rfl rfl rfl) ?_
          refine DL.mv 102 (.bool (t237 == 0)) rfl rfl rfl ?_
          obtain ⟨q241,h242,h243⟩:=bind_some h239
          refine DL.cut [(14,ptr b224 0),(108,.bool q241)] [10,11,12,13,14] ?_ (fun J244 => ?_)
          ·
           refine DL.mv 109 (.bool q241) rfl rfl rfl ?_
           obtain ⟨q249,h250,h251⟩:=bind_some h243
           refine DL.cut [(112,.bool q249)] [14] ?_ (fun J252 => ?_)
           ·
            refine DL.pu 6 (.bool q249) rfl (p_assign rfl rfl) ?_
            refine DL.nil ?_
            obtain rfl:=Option.some.inj h251
            exact retnE (rs:=[.tmp 6]) (vs:=[.bool q249]) hE236.base Tryd.func5 rfl rfl rfl (res_cons (ResV.tmp rfl) res_nil) rfl
           ·
            by_cases c253 : q241 = true
            ·
             have h254:=ite_true c253 h250
             refine DL.quiet (v:=.agg (Der.ce t220_0 t220_0_3 t220_0_5 t220_0_6)) rfl (Wn.yes c253 rfl rfl rfl rfl) rfl rfl rfl (f_loadA (j:=0) ty_a27 ty_s27 rfl rfl rfl rfl) ?_
             obtain ⟨t255,h256,h257⟩:=bind_some h254
             refine DL.quiet (v:=.bool t255) rfl (Wn.yes c253 rfl rfl rfl rfl) rfl rfl rfl (f_callR rfl rfl (args_val (vs:=[.agg (Der.ce t220_0 t220_0_3 t220_0_5 t220_0_6)]) rfl) (fun w => enter14 _ w) (fun w hc => der_May.val h256 (M:=M235) w (hE236.ext hc) (Glob.mono hG (((hx37.trans hx42).trans hx223).trans hx235)) (IntRow.mono hr_t220_0_3 hx235) (IntRow.mono hr_t220_0_5 hx235) (RowS.mono hr_t220_0_6 hx235))) ?_
             refine DL.pu 112 (.bool t255) rfl (p_pick_t c253 rfl rfl rfl) ?_
             obtain rfl:=Option.some.inj h257
             exact DL.weak J252 (Sub.cons rfl (Sub.nil _))
            ·
             replace c253:=Bool.eq_false_iff.mpr c253
             have h258:=ite_false c253 h250
             refine DL.not (i:=11) rfl (Wn.no c253 rfl rfl rfl rfl) rfl rfl ?_
             refine DL.not (i:=12) rfl (Wn.no c253 rfl rfl rfl rfl) rfl rfl ?_
             refine DL.pu 112 (.bool false) rfl (p_pick_f c253 rfl rfl rfl) ?_
             obtain rfl:=Option.some.inj h258
             exact DL.weak J252 (Sub.cons rfl (Sub.nil _))
          ·
           by_cases c245 : (t237 == 0) = true
           ·
            have h246:=ite_true c245 h242
            refine DL.pure (v:=t232_0_v) rfl (Wn.yes c245 rfl rfl rfl rfl) rfl rfl rfl (p_move rfl rfl) ?_
            refine DL.imm (v:=str (bytesL t232_0)) rfl (Wn.yes c245 rfl rfl rfl rfl) rfl rfl rfl (i_bytesStr ty_us23 ty_us5 ty_us9 (IntRow.mono hr_t232_0 hE236.mi) rfl rfl) ?_
            refine DL.pure (v:=a2_v) rfl (Wn.yes c245 rfl rfl rfl rfl) rfl rfl rfl (p_move rfl rfl) ?_
            refine DL.imm (v:=str (bytesL a2)) rfl (Wn.yes c245 rfl rfl rfl rfl) rfl rfl rfl (i_bytesStr ty_us23 ty_us5 ty_us9 (IntRow.mono (IntRow.mono hr_a2 (((hx37.trans hx42).trans hx223).trans hx235)) hE236.mi) rfl rfl) ?_
            refine DL.pure (v:=.bool ((bytesL t232_0) == (bytesL a2))) rfl (Wn.yes c245 rfl rfl rfl rfl) rfl rfl rfl (p_strEq rfl rfl rfl) ?_
            refine DL.pu 108 (.bool ((bytesL t232_0) == (bytesL a2))) rfl (p_pick_t c245 rfl rfl rfl) ?_
            obtain rfl:=Option.some.inj h246
            exact DL.weak J244 (Sub.cons rfl (Sub.cons rfl (Sub.nil _)))
           ·
            replace c245:=Bool.eq_false_iff.mpr c245
            have h247:=ite_false c245 h242
            refine DL.not (i:=4) rfl (Wn.no c245 rfl rfl rfl rfl) rfl rfl ?_
            refine DL.not (i:=5) rfl (Wn.no c245 rfl rfl rfl rfl) rfl rfl ?_
            refine DL.not (i:=6) rfl (Wn.no c245 rfl rfl rfl rfl) rfl rfl ?_
            refine DL.not (i:=7) rfl (Wn.no c245 rfl rfl rfl rfl) rfl rfl ?_
            refine DL.not (i:=8) rfl (Wn.no c245 rfl rfl rfl rfl) rfl rfl ?_
            refine DL.pu 108 (.bool false) rfl (p_pick_f c245 rfl rfl rfl) ?_
            obtain rfl:=Option.some.inj h247
            exact DL.weak J244 (Sub.cons rfl (Sub.cons rfl (Sub.nil _)))
       ·
        by_cases c203 : t195 = true
        ·
         have h204:=ite_true c203 h200
         refine DL.pure (v:=t39_0_v) rfl (Wn.yes c203 rfl rfl rfl rfl) rfl rfl rfl (p_move rfl rfl) ?_
         refine DL.pure (v:=t34_0_v) rfl (Wn.yes c203 rfl rfl rfl rfl) rfl rfl rfl (p_move rfl rfl) ?_
         refine DL.pure (v:=.int .i64 (t34_0.length : Int)) rfl (Wn.yes c203 rfl rfl rfl rfl) rfl rfl rfl (p_slLen ty_u23 (RowV.sl (IntRow.mono hr_t34_0 hx42)) rfl rfl) ?_
         obtain ⟨g206,h207⟩:=req_some h204
         obtain ⟨g208,h209⟩:=req_some h207
         obtain ⟨v205,v205_e⟩ : ∃ u,u = subsl t39_0_v 1 0 (t34_0.length : Int).toNat:=⟨_,rfl⟩
         have hr_v205 : IntRow M42 .u8 v205 (t39_0.take (t34_0.length : Int).toNat):=by rw [v205_e]; exact (IntRow.subH hr_t39_0 (toNat_le g208))
         refine DL.pure (v:=v205) rfl (Wn.yes c203 rfl rfl rfl rfl) rfl rfl rfl (by rw [v205_e]; exact p_subH ty_u23 ty_s5 hr_t39_0 g206 g208 rfl rfl rfl) ?_
         refine DL.quiet (v:=str (bytesL (t39_0.take (t34_0.length : Int).toNat))) rfl (Wn.yes c203 rfl rfl rfl rfl) rfl rfl rfl (q_bytesStr ty_us23 ty_us5 ty_us9 (fun w hc => RowV.mono hr_v205 (hE43.ext hc)) rfl rfl) ?_
         refine DL.pure (v:=t34_0_v) rfl (Wn.yes c203 rfl rfl rfl rfl) rfl rfl rfl (p_move rfl rfl) ?_
         refine DL.imm (v:=str (bytesL t34_0)) rfl (Wn.yes c203 rfl rfl rfl rfl) rfl rfl rfl (i_bytesStr ty_us23 ty_us5 ty_us9 (IntRow.mono (IntRow.mono hr_t34_0 hx42) hE43.mi) rfl rfl) ?_
         obtain ⟨t210,e211,h212⟩:=nm_some h209
         refine DL.pure (v:=.bool t210) rfl (Wn.yes c203 rfl rfl rfl rfl) rfl rfl rfl (by rw [e211]; exact p_strEq rfl rfl rfl) ?_
         refine DL.pu 80 (.bool t210) rfl (p_pick_t c203 rfl rfl rfl) ?_
         obtain rfl:=Option.some.inj h212
         exact DL.weak J202 (Sub.cons rfl (Sub.cons rfl (Sub.cons rfl (Sub.cons rfl (Sub.nil _)))))
        ·
         replace c203:=Bool.eq_false_iff.mpr c203
         have h213:=ite_false c203 h200
         refine DL.not (i:=6) rfl (Wn.no c203 rfl rfl rfl rfl) rfl rfl ?_
         refine DL.not (i:=7) rfl (Wn.no c203 rfl rfl rfl rfl) rfl rfl ?_
         refine DL.not (i:=8) rfl (Wn.no c203 rfl rfl rfl rfl) rfl rfl ?_
         refine DL.not (i:=9) rfl (Wn.no c203 rfl rfl rfl rfl) rfl rfl ?_
         refine DL.not (i:=10) rfl (Wn.no c203 rfl rfl rfl rfl) rfl rfl ?_
         refine DL.not (i:=11) rfl (Wn.no c203 rfl rfl rfl rfl) rfl rfl ?_
         refine DL.not (i:=12) rfl (Wn.no c203 rfl rfl rfl rfl) rfl rfl ?_
         refine DL.not (i:=13) rfl (Wn.no c203 rfl rfl rfl rfl) rfl rfl ?_
         refine DL.pu 80 (.bool false) rfl (p_pick_f c203 rfl rfl rfl) ?_
         obtain rfl:=Option.some.inj h213
         exact DL.weak J202 (Sub.cons rfl (Sub.cons rfl (Sub.cons rfl (Sub.cons rfl (Sub.nil _)))))
      ·
       replace c192:=Bool.eq_false_iff.mpr c192
       have h259:=ite_false c192 h191
       refine TT.cond_false (x:=sub [1,1,1,1,1,1,0,1,0] B5) (y:=sub [1,1,1,1,1,1,0,1,1] B5) rfl c192 ?_
       refine TT.skip ?_
       refine TT.seq (x:=sub [1,1,1,1,1,1,1,0] B5) (y:=sub [1,1,1,1,1,1,1,1] B5) ?_
       refine TT.rg [0,1,2,3,4,5,6,7] [kp,kk,kp,kp,kp,(.alloc,none),(.store,none),kp] rfl rfl ?_
       refine DL.mv 87 (a2_v) rfl rfl rfl ?_
       obtain ⟨⟨t260_0,t260_1⟩,h261,h262⟩:=bind_some h259
       refine DL.callF (G:=Value × Value × Value) (u:=fun g => .tuple #[.agg (Der.ce t260_0 (g.1) (g.2.1) (g.2.2)),.int .i64 t260_1]) (Q:=fun g M_ => (IntRow M_ .u8 (g.1) (Der.bytes t260_0)) ∧ (IntRow M_ .u64 (g.2.1) (Der.arcs t260_0)) ∧ (RowS ShDer M_ (g.2.2) (Tree.kids t260_0))) (A:=[(some b2,.cells ((Der.ce a1 a1_3 a1_5 a1_6)) 27 (0,0)),(some b1,.cells ((Der.ce a0 a0_3 a0_5 a0_6)) 27 (0,0))]) (J:=[]) (fun J263 => ((some b2,.cells ((Der.ce a1 a1_3 a1_5 a1_6)) 27 (0,0)) :: (some b1,.cells ((Der.ce a0 a0_3 a0_5 a0_6)) 27 (0,0)) :: J263)) (Nat.le_refl _) hE43.nil (List.append_nil _).symm (fun _ => rfl) (by simp) (i:=1) rfl (Wn.none rfl) rfl rfl rfl rfl rfl rfl (args_val (vs:=[a2_v]) rfl) (fun w => enter19 _ w) (fun w hc hI => der_Of.ok h261 (M:=M42) w hI (Glob.mono hG (hx37.trans hx42)) (IntRow.mono hr_a2 (hx37.trans hx42))) ?_
       rintro ⟨t260_0_3,t260_0_5,t260_0_6⟩ M263 J263 hE263 hx263 ⟨hr_t260_0_3,hr_t260_0_5,hr_t260_0_6⟩
       show DL _ _ _ _ _ _ _ _ _ _ _ _ ((some b2,.cells ((Der.ce a1 a1_3 a1_5 a1_6)) 27 (0,0)) :: (some b1,.cells ((Der.ce a0 a0_3 a0_5 a0_6)) 27 (0,0)) :: J263)
       refine DL.mv 86 (.tuple #[.agg (Der.ce t260_0 t260_0_3 t260_0_5 t260_0_6),.int .i64 t260_1]) rfl rfl rfl ?_
       refine DL.pu 89 (.agg (Der.ce t260_0 t260_0_3 t260_0_5 t260_0_6)) rfl (p_extract rfl rfl rfl) ?_
       refine DL.pu 90 (.int .i64 t260_1) rfl (p_extract rfl rfl rfl) ?_
       refine DL.new (ob:=.cells (#[.int .i64 0,.bool false,.int .i64 0,(.slice none 0 0),str ([] : List UInt8),(.slice none 0 0),(.slice none 0 0)]) 27) (mk:=fun b => ptr b 0) (i:=5) rfl (Wn.none rfl) rfl rfl rfl (f_alloc ty_z27 rfl) ?_
       intro b264 hb264
       refine DL.put (H':=((some b264,.cells ((Der.ce t260_0 t260_0_3 t260_0_5 t260_0_6)) 27 (0,0)) :: (some b2,.cells ((Der.ce a1 a1_3 a1_5 a1_6)) 27 (0,0)) :: (some b1,.cells ((Der.ce a0 a0_3 a0_5 a0_6)) 27 (0,0)) :: J263)) (i:=6) rfl (Wn.none rfl) rfl rfl (f_storeA (j:=0) ty_s27 rfl rfl rfl (one_cons trivial (one_cons trivial (one_cons trivial (one_cons (sl_one (RowV.sl hr_t260_0_3)) (one_cons trivial (one_cons (sl_one (RowV.sl hr_t260_0_5)) (one_cons (sl_one (RowS.sl hr_t260_0_6)) one_nil))))))) rfl rfl rfl) (keep_none rfl) ?_
       refine DL.pu 15 (.int .i64 t260_1) rfl (p_assign rfl rfl) ?_
       refine DL.nil ?_
       refine TT.settle (A:=[(some b264,.cells ((Der.ce t260_0 t260_0_3 t260_0_5 t260_0_6)) 27 (0,0)),(some b2,.cells ((Der.ce a1 a1_3 a1_5 a1_6)) 27 (0,0)),(some b1,.cells ((Der.ce a0 a0_3 a0_5 a0_6)) 27 (0,0))]) (J:=J263) hE263 ?_
       intro I265 hE265 hxI265
       refine TT.seq (x:=sub [1,1,1,1,1,1,1,1,0] B5) (y:=sub [1,1,1,1,1,1,1,1,1] B5) ?_
       refine TT.seq (x:=sub [1,1,1,1,1,1,1,1,0,0] B5) (y:=sub [1,1,1,1,1,1,1,1,0,1] B5) ?_
       refine TT.rg [0,1,2] [kp,kq,kp] rfl rfl ?_
       refine DL.mv 91 (.int .i64 t260_1) rfl rfl rfl ?_
       obtain ⟨t266,h267,h268⟩:=bind_some h262
       refine DL.qu 92 (.int .i64 t266) rfl (f_callR rfl rfl (args_val (vs:=[.int .i64 t260_1]) rfl) (fun w => enter16 _ w) (fun w hc => law13_num.val h267 (M:=M263) w (hE265.ext hc) )) ?_
       refine DL.pu 93 (.bool (t266 != 0)) rfl (p_neq rfl rfl rfl) ?_
       refine DL.nil ?_
       by_cases c269 : (t266 != 0) = true
       ·
        have h270:=ite_true c269 h268
        refine TT.cond_true (x:=sub [1,1,1,1,1,1,1,1,0,1,0] B5) (y:=sub [1,1,1,1,1,1,1,1,0,1,1] B5) rfl c269 ?_
        refine TT.seq (x:=sub [1,1,1,1,1,1,1,1,0,1,0,0] B5) (y:=sub [1,1,1,1,1,1,1,1,0,1,0,1] B5) ?_
        refine TT.rg [0] [kp] rfl rfl ?_
        refine DL.pu 6 (.bool true) rfl (p_assign rfl rfl) ?_
        refine DL.nil ?_
        obtain rfl:=Option.some.inj h270
        exact retnE (rs:=[.tmp 6]) (vs:=[.bool true]) hE265.base Tryd.func5 rfl rfl rfl (res_cons (ResV.tmp rfl) res_nil) rfl
       ·
        replace c269:=Bool.eq_false_iff.mpr c269
        have h271:=ite_false c269 h268
        refine TT.cond_false (x:=sub [1,1,1,1,1,1,1,1,0,1,0] B5) (y:=sub [1,1,1,1,1,1,1,1,0,1,1] B5) rfl c269 ?_
        refine TT.skip ?_
        refine TT.seq (x:=sub [1,1,1,1,1,1,1,1,1,0] B5) (y:=sub [1,1,1,1,1,1,1,1,1,1] B5) ?_
        refine TT.rg [0,1,2,3,4,5,6] [kq,kk,kp,kp,kp,kp,kp] rfl rfl ?_
        refine DL.qu 95 (.agg (Der.ce t260_0 t260_0_3 t260_0_5 t260_0_6)) rfl (f_loadA (j:=0) ty_a27 ty_s27 rfl rfl rfl rfl) ?_
        obtain ⟨⟨t272_0,t272_1⟩,h273,h274⟩:=bind_some h271
        refine DL.callF (G:=Value) (u:=fun g => .tuple #[g,.int .i64 t272_1]) (Q:=fun g M_ => (IntRow M_ .u8 g t272_0)) (A:=[(some b264,.cells ((Der.ce t260_0 t260_0_3 t260_0_5 t260_0_6)) 27 (0,0)),(some b2,.cells ((Der.ce a1 a1_3 a1_5 a1_6)) 27 (0,0)),(some b1,.cells ((Der.ce a0 a0_3 a0_5 a0_6)) 27 (0,0))]) (J:=[]) (fun J275 => ((some b264,.cells ((Der.ce t260_0 t260_0_3 t260_0_5 t260_0_6)) 27 (0,0)) :: (some b2,.cells ((Der.ce a1 a1_3 a1_5 a1_6)) 27 (0,0)) :: (some b1,.cells ((Der.ce a0 a0_3 a0_5 a0_6)) 27 (0,0)) :: J275)) (Nat.le_refl _) hE265.nil (List.append_nil _).symm (fun _ => rfl) (by simp) (i:=1) rfl (Wn.none rfl) rfl rfl rfl rfl rfl rfl (args_val (vs:=[.agg (Der.ce t260_0 t260_0_3 t260_0_5 t260_0_6)]) rfl) (fun w => enter12 _ w) (fun w hc hI => der_Bytes.ok h273 (M:=M263) w hI (Glob.mono hG ((hx37.trans hx42).trans hx263)) hr_t260_0_3 hr_t260_0_5 hr_t260_0_6) ?_
        rintro t272_0_v M275 J275 hE275 hx275 hr_t272_0
        show DL _ _ _ _ _ _ _ _ _ _ _ _ ((some b264,.cells ((Der.ce t260_0 t260_0_3 t260_0_5 t260_0_6)) 27 (0,0)) :: (some b2,.cells ((Der.ce a1 a1_3 a1_5 a1_6)) 27 (0,0)) :: (some b1,.cells ((Der.ce a0 a0_3 a0_5 a0_6)) 27 (0,0)) :: J275)
        refine DL.mv 94 (.tuple #[t272_0_v,.int .i64 t272_1]) rfl rfl rfl ?_
        refine DL.pu 97 (t272_0_v) rfl (p_extract rfl rfl rfl) ?_
        refine DL.pu 98 (.int .i64 t272_1) rfl (p_extract rfl rfl rfl) ?_
        refine DL.pu 16 (t272_0_v) rfl (p_assign rfl rfl) ?_
        refine DL.pu 17 (.int .i64 t272_1) rfl (p_assign rfl rfl) ?_
        refine DL.nil ?_
        refine TT.settle (A:=[(some b264,.cells ((Der.ce t260_0 t260_0_3 t260_0_5 t260_0_6)) 27 (0,0)),(some b2,.cells ((Der.ce a1 a1_3 a1_5 a1_6)) 27 (0,0)),(some b1,.cells ((Der.ce a0 a0_3 a0_5 a0_6)) 27 (0,0))]) (J:=J275) hE275 ?_
        intro I276 hE276 hxI276
        refine TT.seq (x:=sub [1,1,1,1,1,1,1,1,1,1,0] B5) (y:=sub [1,1,1,1,1,1,1,1,1,1,1] B5) ?_
        refine TT.rg [0,1,2,3,4,5,6,7,8,9,10,11,12,13,14] [kp,kq,kp,kp,kp,kp,kp,kp,kp,kp,kp,kq,kq,kp,kp] rfl rfl ?_
        refine DL.mv 99 (.int .i64 t272_1) rfl rfl rfl ?_
        obtain ⟨t277,h278,h279⟩:=bind_some h274
        refine DL.qu 100 (.int .i64 t277) rfl (f_callR rfl rfl (args_val (vs:=[.int .i64 t272_1]) rfl) (fun w => enter16 _ w) (fun w hc => law13_num.val h278 (M:=M275) w (hE276.ext hc) )) ?_
        refine DL.pu 101 (.bool (t277 == 0)) rfl (p_eql rfl rfl rfl) ?_
        refine DL.mv 102 (.bool (t277 == 0)) rfl rfl rfl ?_
        obtain ⟨q281,h282,h283⟩:=bind_some h279
        refine DL.cut [(14,ptr b264 0),(108,.bool q281)] [10,11,12,13,14] ?_ (fun J284 => ?_)
        ·
         refine DL.mv 109 (.bool q281) rfl rfl rfl ?_
         obtain ⟨q289,h290,h291⟩:=bind_some h283
         refine DL.cut [(112,.bool q289)] [14] ?_ (fun J292 => ?_)
         ·
          refine DL.pu 6 (.bool q289) rfl (p_assign rfl rfl) ?_
          refine DL.nil ?_
          obtain rfl:=Option.some.inj h291
          exact retnE (rs:=[.tmp 6]) (vs:=[.bool q289]) hE276.base Tryd.func5 rfl rfl rfl (res_cons (ResV.tmp rfl) res_nil) rfl
         ·
          by_cases c293 : q281 = true
          ·
           have h294:=ite_true c293 h290
           refine DL.quiet (v:=.agg (Der.ce t260_0 t260_0_3 t260_0_5 t260_0_6)) rfl (Wn.yes c293 rfl rfl rfl rfl) rfl rfl rfl (f_loadA (j:=0) ty_a27 ty_s27 rfl rfl rfl rfl) ?_
           obtain ⟨t295,h296,h297⟩:=bind_some h294
           refine DL.quiet (v:=.bool t295) rfl (Wn.yes c293 rfl rfl rfl rfl) rfl rfl rfl (f_callR rfl rfl (args_val (vs:=[.agg (Der.ce t260_0 t260_0_3 t260_0_5 t260_0_6)]) rfl) (fun w => enter14 _ w) (fun w hc => der_May.val h296 (M:=M275) w (hE276.ext hc) (Glob.mono hG (((hx37.trans hx42).trans hx263).trans hx275)) (IntRow.mono hr_t260_0_3 hx275) (IntRow.mono hr_t260_0_5 hx275) (RowS.mono hr_t260_0_6 hx275))) ?_
           refine DL.pu 112 (.bool t295) rfl (p_pick_t c293 rfl rfl rfl) ?_
           obtain rfl:=Option.some.inj h297
           exact DL.weak J292 (Sub.cons rfl (Sub.nil _))
          ·
           replace c293:=Bool.eq_false_iff.mpr c293
           have h298:=ite_false c293 h290
           refine DL.not (i:=11) rfl (Wn.no c293 rfl rfl rfl rfl) rfl rfl ?_
           refine DL.not (i:=12) rfl (Wn.no c293 rfl rfl rfl rfl) rfl rfl ?_
           refine DL.pu 112 (.bool false) rfl (p_pick_f c293 rfl rfl rfl) ?_
           obtain rfl:=Option.some.inj h298
           exact DL.weak J292 (Sub.cons rfl (Sub.nil _))
        ·
         by_cases c285 : (t277 == 0) = true
         ·
          have h286:=ite_true c285 h282
          refine DL.pure (v:=t272_0_v) rfl (Wn.yes c285 rfl rfl rfl rfl) rfl rfl rfl (p_move rfl rfl) ?_
          refine DL.imm (v:=str (bytesL t272_0)) rfl (Wn.yes c285 rfl rfl rfl rfl) rfl rfl rfl (i_bytesStr ty_us23 ty_us5 ty_us9 (IntRow.mono hr_t272_0 hE276.mi) rfl rfl) ?_
          refine DL.pure (v:=a2_v) rfl (Wn.yes c285 rfl rfl rfl rfl) rfl rfl rfl (p_move rfl rfl) ?_
          refine DL.imm (v:=str (bytesL a2)) rfl (Wn.yes c285 rfl rfl rfl rfl) rfl rfl rfl (i_bytesStr ty_us23 ty_us5 ty_us9 (IntRow.mono (IntRow.mono hr_a2 (((hx37.trans hx42).trans hx263).trans hx275)) hE276.mi) rfl rfl) ?_
          refine DL.pure (v:=.bool ((bytesL t272_0) == (bytesL a2))) rfl (Wn.yes c285 rfl rfl rfl rfl) rfl rfl rfl (p_strEq rfl rfl rfl) ?_
          refine DL.pu 108 (.bool ((bytesL t272_0) == (bytesL a2))) rfl (p_pick_t c285 rfl rfl rfl) ?_
          obtain rfl:=Option.some.inj h286
          exact DL.weak J284 (Sub.cons rfl (Sub.cons rfl (Sub.nil _)))
         ·
          replace c285:=Bool.eq_false_iff.mpr c285
          have h287:=ite_false c285 h282
          refine DL.not (i:=4) rfl (Wn.no c285 rfl rfl rfl rfl) rfl rfl ?_
          refine DL.not (i:=5) rfl (Wn.no c285 rfl rfl rfl rfl) rfl rfl ?_
          refine DL.not (i:=6) rfl (Wn.no c285 rfl rfl rfl rfl) rfl rfl ?_
          refine DL.not (i:=7) rfl (Wn.no c285 rfl rfl rfl rfl) rfl rfl ?_
          refine DL.not (i:=8) rfl (Wn.no c285 rfl rfl rfl rfl) rfl rfl ?_
          refine DL.pu 108 (.bool false) rfl (p_pick_f c285 rfl rfl rfl) ?_
          obtain rfl:=Option.some.inj h287
          exact DL.weak J284 (Sub.cons rfl (Sub.cons rfl (Sub.nil _)))
   ·
    by_cases c28 : q13 = true
    ·
     have h29:=ite_true c28 h25
     refine DL.not (i:=9) rfl (Wn.yes c28 rfl rfl rfl rfl) rfl rfl ?_
     refine DL.not (i:=10) rfl (Wn.yes c28 rfl rfl rfl rfl) rfl rfl ?_
     refine DL.not (i:=11) rfl (Wn.yes c28 rfl rfl rfl rfl) rfl rfl ?_
     refine DL.pu 32 (.bool true) rfl (p_pick_t c28 rfl rfl rfl) ?_
     obtain rfl:=Option.some.inj h29
     exact DL.weak J27 (Sub.cons rfl (Sub.cons rfl (Sub.cons rfl (Sub.cons rfl (Sub.nil _)))))
    ·
     replace c28:=Bool.eq_false_iff.mpr c28
     have h30:=ite_false c28 h25
     refine DL.pure (v:=a2_v) rfl (Wn.no c28 rfl rfl rfl rfl) rfl rfl rfl (p_move rfl rfl) ?_
     refine DL.pure (v:=.int .i64 (a2.length : Int)) rfl (Wn.no c28 rfl rfl rfl rfl) rfl rfl rfl (p_slLen ty_u23 (RowV.sl hr_a2) rfl rfl) ?_
     refine DL.pure (v:=.bool (decide (9000 < (a2.length : Int)))) rfl (Wn.no c28 rfl rfl rfl rfl) rfl rfl rfl (p_gtr rfl rfl rfl) ?_
     refine DL.pu 32 (.bool (decide (9000 < (a2.length : Int)))) rfl (p_pick_f c28 rfl rfl rfl) ?_
     obtain rfl:=Option.some.inj h30
     exact DL.weak J27 (Sub.cons rfl (Sub.cons rfl (Sub.cons rfl (Sub.cons rfl (Sub.nil _)))))
  ·
   by_cases c17 : (!t9) = true
   ·
    have h18:=ite_true c17 h14
    refine DL.not (i:=4) rfl (Wn.yes c17 rfl rfl rfl rfl) rfl rfl ?_
    refine DL.not (i:=5) rfl (Wn.yes c17 rfl rfl rfl rfl) rfl rfl ?_
    refine DL.not (i:=6) rfl (Wn.yes c17 rfl rfl rfl rfl) rfl rfl ?_
    refine DL.pu 27 (.bool true) rfl (p_pick_t c17 rfl rfl rfl) ?_
    obtain rfl:=Option.some.inj h18
    exact DL.weak J16 (Sub.cons rfl (Sub.cons rfl (Sub.cons rfl (Sub.cons rfl (Sub.nil _)))))
   ·
    replace c17:=Bool.eq_false_iff.mpr c17
    have h19:=ite_false c17 h14
    refine DL.quiet (v:=.agg (Der.ce a1 a1_3 a1_5 a1_6)) rfl (Wn.no c17 rfl rfl rfl rfl) rfl rfl rfl (f_loadA (j:=0) ty_a27 ty_s27 rfl rfl rfl rfl) ?_
    obtain ⟨t20,h21,h22⟩:=bind_some h19
    refine DL.quiet (v:=.bool t20) rfl (Wn.no c17 rfl rfl rfl rfl) rfl rfl rfl (f_callR rfl rfl (args_val (vs:=[.agg (Der.ce a1 a1_3 a1_5 a1_6)]) rfl) (fun w => enter10 _ w) (fun w hc => law13_few.val h21 (M:=M) w (hE.ext hc) hr_a1_3 hr_a1_5 hr_a1_6)) ?_
    refine DL.pure (v:=.bool (!t20)) rfl (Wn.no c17 rfl rfl rfl rfl) rfl rfl rfl (p_not rfl rfl) ?_
    refine DL.pu 27 (.bool (!t20)) rfl (p_pick_f c17 rfl rfl rfl) ?_
    obtain rfl:=Option.some.inj h22
    exact DL.weak J16 (Sub.cons rfl (Sub.cons rfl (Sub.cons rfl (Sub.cons rfl (Sub.nil _)))))
theorem law13_DerMeans.val {a0 : Der} {a1 : Der} {a2 : List Int} {a0_3 : Value} {a0_5 : Value} {a0_6 : Value} {a1_3 : Value} {a1_5 : Value} {a1_6 : Value} {a2_v : Value} {r : Bool} (h : law13_DerMeans.f a0 a1 a2 = some r) {M : Mem} (w : World) (hM : Ext M (heapOf w)) (hG : Glob M) (hr_a0_3 : IntRow M .u8 a0_3 (Der.bytes a0)) (hr_a0_5 : IntRow M .u64 a0_5 (Der.arcs a0)) (hr_a0_6 : RowS ShDer M a0_6 (Tree.kids a0)) (hr_a1_3 : IntRow M .u8 a1_3 (Der.bytes a1)) (hr_a1_5 : IntRow M .u64 a1_5 (Der.arcs a1)) (hr_a1_6 : RowS ShDer M a1_6 (Tree.kids a1)) (hr_a2 : IntRow M .u8 a2_v a2) : Calls Tryd.prog 5 #[.agg (Der.ce a0 a0_3 a0_5 a0_6),.agg (Der.ce a1 a1_3 a1_5 a1_6),a2_v] w fun e w' => e = .returned (.bool r) ∧ Below w.heap.size w w' :=
 calls_value (law13_DerMeans.ok h w hM hG hr_a0_3 hr_a0_5 hr_a0_6 hr_a1_3 hr_a1_5 hr_a1_6 hr_a2)

end Go.Proofs.YtjhknfpociahoaaDoor
