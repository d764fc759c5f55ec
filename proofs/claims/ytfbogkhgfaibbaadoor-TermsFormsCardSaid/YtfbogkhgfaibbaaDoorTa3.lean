import Derived.Test.YtfbogkhgfaibbaaDoorTa2
namespace Go.Proofs.YtfbogkhgfaibbaaDoor
open Go Go.HW Go.RowKit
set_option linter.unusedVariables false
set_option linter.unusedSimpArgs false

/-! ### (escutcheon/terms.knowledge).apart: function 58 -/
noncomputable def B58 : Code:=bodyOf Tryd.f58
def terms_apart.f (a0 : KM) (a1 : Tm) : Option ((List Tm)):=if ((Tm.kind a1) == 7) = true then (some (Tree.kids a1)) else ((if ((Tm.kind a1) == 5) = true then (some ((Tm.kind a1) == 5)) else ((if ((Tm.kind a1) == 4) = true then (req ((0 : Int) < ((Tree.kids a1).length : Int)) (nm ((Tree.kids a1).getD ((0 : Int).toNat) Tm.dflt) fun t23 => (terms_canM.f a0 t23).bind fun t26 => some t26)) else (some false)).bind fun q14 => some q14)).bind fun j11_6 => if j11_6 = true then (req ((1 : Int) ≤ ((Tree.kids a1).length : Int)) (some ((Tree.kids a1).drop (1 : Int).toNat))) else (some ([] : List Tm)))
set_option maxRecDepth 20000 in
theorem terms_apart.ok {a0 : KM} {a1 : Tm} {a0_m : Nat} {a1_2 : Value} {r : List Tm} (h : terms_apart.f a0 a1 = some r) {M : Mem} (w : World) (hM : Ext M (heapOf w)) (hG : Glob M) (hm_a0 : KMap ShTm (heapOf w) a0_m a0) (hr_a1_2 : RowS ShTm M a1_2 (Tree.kids a1)) : Calls Tryd.prog 58 #[.map (some a0_m),.agg (Tm.ce a1 a1_2)] w (PostF (G:=Value) (fun g => g) (fun g M_ => (RowS ShTm M_ g r)) M w):=by
 unfold terms_apart.f at h
 have hE:=Env.start hM
 refine calls_of_TT (N:=29) (S:=[(0,.map (some a0_m)),(1,.agg (Tm.ce a1 a1_2))]) (c:=B58) Tryd.func58 rfl rfl rfl (by simp) ?_
 show TT _ _ _ _ _ _ [.code (sub [] B58)] _ _
 refine TT.seq (x:=sub [0] B58) (y:=sub [1] B58) ?_
 refine TT.rg [0,1] [(.alloc,none),kp] rfl rfl ?_
 refine DL.new (ob:=.cells ((Tm.ce a1 a1_2)) 25) (mk:=fun b => ptr b 0) (i:=0) rfl (Wn.none rfl) rfl rfl rfl (f_box (v:=.agg (Tm.ce a1 a1_2)) rfl rfl) ?_
 intro b1 hb1
 refine DL.pu 4 (.slice none 0 0) rfl (p_assign rfl rfl) ?_
 refine DL.nil ?_
 refine TT.seq (x:=sub [1,0] B58) (y:=sub [1,1] B58) ?_
 refine TT.block (c:=sub [1,0,0] B58) ?_
 refine TT.seq (x:=sub [1,0,0,0] B58) (y:=sub [1,0,0,1] B58) ?_
 refine TT.rg [0,1,2,3] [kp,kq,kp,kp] rfl rfl ?_
 refine DL.pu 6 (ptr b1 0) rfl (p_fieldAddr ty_f25_0 rfl rfl) ?_
 refine DL.qu 7 (.int .i64 (Tm.kind a1)) rfl (f_load (j:=0) ty_a23 rfl rfl rfl rfl) ?_
 refine DL.pu 8 (.bool ((Tm.kind a1) == 7)) rfl (p_eql rfl rfl rfl) ?_
 refine DL.pu 5 (.bool ((Tm.kind a1) == 7)) rfl (p_assign rfl rfl) ?_
 refine DL.nil ?_
 by_cases c2 : ((Tm.kind a1) == 7) = true
 ·
  have h3:=ite_true c2 h
  refine TT.cond_true (x:=sub [1,0,0,1,0] B58) (y:=sub [1,0,0,1,1] B58) rfl c2 ?_
  refine TT.seq (x:=sub [1,0,0,1,0,0] B58) (y:=sub [1,0,0,1,0,1] B58) ?_
  refine TT.rg [0,1,2] [kp,kq,kp] rfl rfl ?_
  refine DL.pu 9 (ptr b1 2) rfl (p_fieldAddr ty_f25_2 rfl rfl) ?_
  refine DL.qu 10 (a1_2) rfl (f_load (j:=0) ty_a22 rfl rfl rfl rfl) ?_
  refine DL.pu 4 (a1_2) rfl (p_assign rfl rfl) ?_
  refine DL.nil ?_
  obtain rfl:=Option.some.inj h3
  exact retF (rs:=[.tmp 4]) (vs:=[a1_2]) a1_2 hE Tryd.func58 rfl rfl rfl (res_cons (ResV.tmp rfl) res_nil) hr_a1_2
 ·
  replace c2:=Bool.eq_false_iff.mpr c2
  have h4:=ite_false c2 h
  refine TT.cond_false (x:=sub [1,0,0,1,0] B58) (y:=sub [1,0,0,1,1] B58) rfl c2 ?_
  refine TT.seq (x:=sub [1,0,0,1,1,0] B58) (y:=sub [1,0,0,1,1,1] B58) ?_
  refine TT.seq (x:=sub [1,0,0,1,1,0,0] B58) (y:=sub [1,0,0,1,1,0,1] B58) ?_
  refine TT.rg [0,1,2,3] [kp,kq,kp,kp] rfl rfl ?_
  refine DL.pu 12 (ptr b1 0) rfl (p_fieldAddr ty_f25_0 rfl rfl) ?_
  refine DL.qu 13 (.int .i64 (Tm.kind a1)) rfl (f_load (j:=0) ty_a23 rfl rfl rfl rfl) ?_
  refine DL.pu 14 (.bool ((Tm.kind a1) == 5)) rfl (p_eql rfl rfl rfl) ?_
  refine DL.pu 11 (.bool ((Tm.kind a1) == 5)) rfl (p_assign rfl rfl) ?_
  refine DL.nil ?_
  obtain ⟨j11_6,h7,h8⟩:=bind_some h4
  have J9 : TT Tryd.prog 58 (PostF (G:=Value) (fun g => g) (fun g M_ => (RowS ShTm M_ g r)) M w) 29 w (heapOf w) (.code (sub [1,0,0,1,1,1] B58) :: .inBlock 0 :: .code (sub [1,1] B58) :: []) [(3,ptr b1 0),(11,.bool j11_6)] [(some b1,.cells ((Tm.ce a1 a1_2)) 25 (0,0))]:=by
   by_cases c30 : j11_6 = true
   ·
    have h31:=ite_true c30 h8
    refine TT.cond_true (x:=sub [1,0,0,1,1,1,0] B58) (y:=sub [1,0,0,1,1,1,1] B58) rfl c30 ?_
    refine TT.seq (x:=sub [1,0,0,1,1,1,0,0] B58) (y:=sub [1,0,0,1,1,1,0,1] B58) ?_
    refine TT.rg [0,1,2,3] [kp,kq,kp,kp] rfl rfl ?_
    refine DL.pu 26 (ptr b1 2) rfl (p_fieldAddr ty_f25_2 rfl rfl) ?_
    refine DL.qu 27 (a1_2) rfl (f_load (j:=0) ty_a22 rfl rfl rfl rfl) ?_
    obtain ⟨g33,h34⟩:=req_some h31
    obtain ⟨v32,v32_e⟩ : ∃ u,u = subsl a1_2 3 (1 : Int).toNat (Tree.kids a1).length:=⟨_,rfl⟩
    have hr_v32 : RowS ShTm M v32 ((Tree.kids a1).drop (1 : Int).toNat):=by rw [v32_e]; exact (RowS.subL hr_a1_2 (toNat_le g33))
    refine DL.pu 28 (v32) rfl (by rw [v32_e]; exact p_subL ty_u22 ty_s25 (RowS.V hr_a1_2).choose_spec (by decide) g33 rfl rfl rfl) ?_
    refine DL.pu 4 (v32) rfl (p_assign rfl rfl) ?_
    refine DL.nil ?_
    obtain rfl:=Option.some.inj h34
    exact retF (rs:=[.tmp 4]) (vs:=[v32]) v32 hE Tryd.func58 rfl rfl rfl (res_cons (ResV.tmp rfl) res_nil) hr_v32
   ·
    replace c30:=Bool.eq_false_iff.mpr c30
    have h35:=ite_false c30 h8
    refine TT.cond_false (x:=sub [1,0,0,1,1,1,0] B58) (y:=sub [1,0,0,1,1,1,1] B58) rfl c30 ?_
    refine TT.skip ?_
    refine TT.inBlock ?_
    refine TT.seq (x:=sub [1,1,0] B58) (y:=sub [1,1,1] B58) ?_
    refine TT.rg [0] [kp] rfl rfl ?_
    refine DL.pu 4 (.slice none 0 0) rfl (p_assign rfl rfl) ?_
    refine DL.nil ?_
    obtain rfl:=Option.some.inj h35
    exact retF (rs:=[.tmp 4]) (vs:=[(.slice none 0 0)]) (.slice none 0 0) hE Tryd.func58 rfl rfl rfl (res_cons (ResV.tmp rfl) res_nil) (RowS.nil ShTm M)
  by_cases c5 : ((Tm.kind a1) == 5) = true
  ·
   have h11:=ite_true c5 h7
   refine TT.cond_true (x:=sub [1,0,0,1,1,0,1,0] B58) (y:=sub [1,0,0,1,1,0,1,1] B58) rfl c5 ?_
   refine TT.skip ?_
   obtain rfl:=Option.some.inj h11
   exact TT.weak (J9 ) (Sub.cons rfl (Sub.cons rfl (Sub.nil _)))
  ·
   replace c5:=Bool.eq_false_iff.mpr c5
   have h12:=ite_false c5 h7
   refine TT.cond_false (x:=sub [1,0,0,1,1,0,1,0] B58) (y:=sub [1,0,0,1,1,0,1,1] B58) rfl c5 ?_
   refine TT.rg [0,1,2,3,4,5,6,7,8,9,10,11] [kp,kq,kp,kp,kp,kp,kq,kp,kp,kq,kp,kp] rfl rfl ?_
   refine DL.pu 15 (ptr b1 0) rfl (p_fieldAddr ty_f25_0 rfl rfl) ?_
   refine DL.qu 16 (.int .i64 (Tm.kind a1)) rfl (f_load (j:=0) ty_a23 rfl rfl rfl rfl) ?_
   refine DL.pu 17 (.bool ((Tm.kind a1) == 4)) rfl (p_eql rfl rfl rfl) ?_
   refine DL.mv 18 (.bool ((Tm.kind a1) == 4)) rfl rfl rfl ?_
   obtain ⟨q14,h15,h16⟩:=bind_some h12
   refine DL.cut [(3,ptr b1 0),(25,.bool q14)] [11] ?_ (fun J17 => ?_)
   ·
    refine DL.pu 11 (.bool q14) rfl (p_assign rfl rfl) ?_
    refine DL.nil ?_
    obtain rfl:=Option.some.inj h16
    exact TT.weak (J9 ) (Sub.cons rfl (Sub.cons rfl (Sub.nil _)))
   ·
    by_cases c18 : ((Tm.kind a1) == 4) = true
    ·
     have h19:=ite_true c18 h15
     refine DL.pure (v:=.map (some a0_m)) rfl (Wn.yes c18 rfl rfl rfl rfl) rfl rfl rfl (p_move rfl rfl) ?_
     refine DL.pure (v:=ptr b1 2) rfl (Wn.yes c18 rfl rfl rfl rfl) rfl rfl rfl (p_fieldAddr ty_f25_2 rfl rfl) ?_
     refine DL.quiet (v:=a1_2) rfl (Wn.yes c18 rfl rfl rfl rfl) rfl rfl rfl (f_load (j:=0) ty_a22 rfl rfl rfl rfl) ?_
     obtain ⟨g20,h21⟩:=req_some h19
     refine DL.pure (v:=elp a1_2 (((0 : Int).toNat) * 3)) rfl (Wn.yes c18 rfl rfl rfl rfl) rfl rfl rfl (p_slIx ty_u22 ty_s25 (RowS.some hr_a1_2 (by decide) g20) (by decide) g20 rfl rfl rfl) ?_
     obtain ⟨t23,e24,h25⟩:=nm_some h21
     obtain ⟨cs22,hc22,hl22⟩:=id (hr_a1_2)
     have q22:=hl22 _ _ (getD_some Tm.dflt (lt_len (by decide) g20)); rw [← e24] at q22
     obtain ⟨t23_2,hq22,hr_t23_2⟩:=Tm.op q22
     refine DL.imm (v:=.agg (Tm.ce t23 t23_2)) rfl (Wn.yes c18 rfl rfl rfl rfl) rfl rfl rfl (i_loadElA (RowV.mono hc22 hE.mi) hq22 (lt_len (by decide) g20) ty_a25 ty_s25 rfl rfl) ?_
     obtain ⟨t26,h27,h28⟩:=bind_some h25
     refine DL.quiet (v:=.bool t26) rfl (Wn.yes c18 rfl rfl rfl rfl) rfl rfl rfl (f_callR rfl rfl (args_val (vs:=[.map (some a0_m),.agg (Tm.ce t23 t23_2)]) rfl) (fun w => enter38 _ w) (fun w hc => terms_canM.val h27 (M:=heapOf w) w (Ext.refl _) (Glob.mono hG (hE.ext hc)) (KMap.mono hm_a0 (fun b o e => hc.imm b o (hE.base b o e))) (RowS.mono hr_t23_2 (hE.ext hc)))) ?_
     refine DL.pu 25 (.bool t26) rfl (p_pick_t c18 rfl rfl rfl) ?_
     obtain rfl:=Option.some.inj h28
     exact DL.weak J17 (Sub.cons rfl (Sub.cons rfl (Sub.nil _)))
    ·
     replace c18:=Bool.eq_false_iff.mpr c18
     have h29:=ite_false c18 h15
     refine DL.not (i:=4) rfl (Wn.no c18 rfl rfl rfl rfl) rfl rfl ?_
     refine DL.not (i:=5) rfl (Wn.no c18 rfl rfl rfl rfl) rfl rfl ?_
     refine DL.not (i:=6) rfl (Wn.no c18 rfl rfl rfl rfl) rfl rfl ?_
     refine DL.not (i:=7) rfl (Wn.no c18 rfl rfl rfl rfl) rfl rfl ?_
     refine DL.not (i:=8) rfl (Wn.no c18 rfl rfl rfl rfl) rfl rfl ?_
     refine DL.not (i:=9) rfl (Wn.no c18 rfl rfl rfl rfl) rfl rfl ?_
     refine DL.pu 25 (.bool false) rfl (p_pick_f c18 rfl rfl rfl) ?_
     obtain rfl:=Option.some.inj h29
     exact DL.weak J17 (Sub.cons rfl (Sub.cons rfl (Sub.nil _)))

/-! ### escutcheon/escutcheonref29.args: function 53 -/
noncomputable def B53 : Code:=bodyOf Tryd.f53
def ref29_args.f (a0 : Int) : Option (Int):=req (0 ≤ a0) (req (a0 < ([0,0,0,1,2,2,2,2,2,1].length : Int)) (some ([0,0,0,1,2,2,2,2,2,1].getD a0.toNat 0)))
set_option maxRecDepth 20000 in
theorem ref29_args.ok {a0 : Int} {r : Int} (h : ref29_args.f a0 = some r) {M : Mem} (w : World) (hM : Ext M (heapOf w)) : Calls Tryd.prog 53 #[.int .i64 a0] w (Post (fun u => u = .int .i64 r) w):=by
 unfold ref29_args.f at h
 have hE:=Env.start hM
 refine calls_of_TT (N:=7) (S:=[(0,.int .i64 a0)]) (c:=B53) Tryd.func53 rfl rfl rfl (by simp) ?_
 show TT _ _ _ _ _ _ [.code (sub [] B53)] _ _
 refine TT.seq (x:=sub [0] B53) (y:=sub [1] B53) ?_
 refine TT.rg [0] [kp] rfl rfl ?_
 refine DL.pu 2 (.int .i64 0) rfl (p_assign rfl rfl) ?_
 refine DL.nil ?_
 refine TT.seq (x:=sub [1,0] B53) (y:=sub [1,1] B53) ?_
 refine TT.rg [0,1,2,3,4] [(.alloc,none),kp,kp,kq,kp] rfl rfl ?_
 refine DL.newSl (zs:=[0,0,0,1,2,2,2,2,2,1]) (n:=10) rfl (by decide) (i:=0) rfl (Wn.none rfl) rfl rfl rfl (f_buildSl (n:=10) (zs:=[0,0,0,1,2,2,2,2,2,1]) (vs:=[(0,.int .i64 0),(1,.int .i64 0),(2,.int .i64 0),(3,.int .i64 1),(4,.int .i64 2),(5,.int .i64 2),(6,.int .i64 2),(7,.int .i64 2),(8,.int .i64 2),(9,.int .i64 1)]) elem102 rfl rfl (by kernel_rfl) rfl (args_val2 rfl)) ?_
 intro s2_v s2_c ho_s2
 refine DL.mv 4 (.int .i64 a0) rfl rfl rfl ?_
 obtain ⟨g3,h4⟩:=req_some h
 obtain ⟨g5,h6⟩:=req_some h4
 refine DL.pu 5 (elp s2_v a0.toNat) rfl (p_slIx1 ty_u102 ty_s3 (OwnV.some ho_s2 g3 g5) g3 g5 rfl rfl rfl) ?_
 refine DL.qu 6 (.int .i64 ([0,0,0,1,2,2,2,2,2,1].getD a0.toNat 0)) rfl (f_loadEl (i:=0) rfl ho_s2 (encl_get .i64 (lt_len g3 g5)) ty_a3 rfl rfl) ?_
 refine DL.pu 2 (.int .i64 ([0,0,0,1,2,2,2,2,2,1].getD a0.toNat 0)) rfl (p_assign rfl rfl) ?_
 refine DL.nil ?_
 obtain rfl:=Option.some.inj h6
 exact retnE (rs:=[.tmp 2]) (vs:=[.int .i64 ([0,0,0,1,2,2,2,2,2,1].getD a0.toNat 0)]) hE.base Tryd.func53 rfl rfl rfl (res_cons (ResV.tmp rfl) res_nil) rfl
theorem ref29_args.val {a0 : Int} {r : Int} (h : ref29_args.f a0 = some r) {M : Mem} (w : World) (hM : Ext M (heapOf w)) : Calls Tryd.prog 53 #[.int .i64 a0] w fun e w' => e = .returned (.int .i64 r) ∧ Below w.heap.size w w' :=
 calls_value (ref29_args.ok h w hM)

/-! ### escutcheon/escutcheonlaw29.num: function 24 -/
noncomputable def B24 : Code:=bodyOf Tryd.f24
def law29_num.f (a0 : Int) : Option (Int):=some a0
set_option maxRecDepth 20000 in
theorem law29_num.ok {a0 : Int} {r : Int} (h : law29_num.f a0 = some r) {M : Mem} (w : World) (hM : Ext M (heapOf w)) : Calls Tryd.prog 24 #[.int .i64 a0] w (Post (fun u => u = .int .i64 r) w):=by
 unfold law29_num.f at h
 have hE:=Env.start hM
 refine calls_of_TT (N:=4) (S:=[(0,.int .i64 a0)]) (c:=B24) Tryd.func24 rfl rfl rfl (by simp) ?_
 show TT _ _ _ _ _ _ [.code (sub [] B24)] _ _
 refine TT.seq (x:=sub [0] B24) (y:=sub [1] B24) ?_
 refine TT.rg [0] [kp] rfl rfl ?_
 refine DL.pu 2 (.int .i64 0) rfl (p_assign rfl rfl) ?_
 refine DL.nil ?_
 refine TT.seq (x:=sub [1,0] B24) (y:=sub [1,1] B24) ?_
 refine TT.rg [0,1] [kp,kp] rfl rfl ?_
 refine DL.mv 3 (.int .i64 a0) rfl rfl rfl ?_
 refine DL.pu 2 (.int .i64 a0) rfl (p_assign rfl rfl) ?_
 refine DL.nil ?_
 obtain rfl:=Option.some.inj h
 exact retnE (rs:=[.tmp 2]) (vs:=[.int .i64 a0]) hE.base Tryd.func24 rfl rfl rfl (res_cons (ResV.tmp rfl) res_nil) rfl
theorem law29_num.val {a0 : Int} {r : Int} (h : law29_num.f a0 = some r) {M : Mem} (w : World) (hM : Ext M (heapOf w)) : Calls Tryd.prog 24 #[.int .i64 a0] w fun e w' => e = .returned (.int .i64 r) ∧ Below w.heap.size w w' :=
 calls_value (law29_num.ok h w hM)

@[reducible] def ref29_Size.Rec (r_ : Tm → Int → Option (Int)) : Prop:=∀ {a0 : Tm} {a1 : Int} {a0_2 : Value} {r : Int},r_ a0 a1 = some r → ∀ {M : Mem} (w : World) (hM : Ext M (heapOf w)) (hr_a0_2 : RowS ShTm M a0_2 (Tree.kids a0)),Calls Tryd.prog 13 #[.agg (Tm.ce a0 a0_2),.int .i64 a1] w (fun e w' => e = .returned (.int .i64 r) ∧ Below w.heap.size w w')

/-! ### escutcheon/escutcheonref29.Size: function 13 -/
noncomputable def B13 : Code:=bodyOf Tryd.f13
def ref29_Size.L0 (r_ref29_Size : Tm → Int → Option (Int)) (a0 : Tm) (a1 : Int) : Nat → Int → Int → Option (Int)
 | 0,_,_ => none
 | k + 1,x5_2,x6_3 => (if (decide (x6_3 < ((Tree.kids a0).length : Int))) = true then (some (decide (x5_2 ≤ a1))) else (some false)).bind fun q78 => if q78 = true then (req (0 ≤ x6_3) (req (x6_3 < ((Tree.kids a0).length : Int)) (nm ((Tree.kids a0).getD x6_3.toNat Tm.dflt) fun t92 => (r_ref29_Size t92 (IntKind.i64.wrap (a1 - x5_2))).bind fun t95 => ref29_Size.L0 r_ref29_Size a0 a1 k (IntKind.i64.wrap (x5_2 + t95)) (IntKind.i64.wrap (x6_3 + 1))))) else (some x5_2)
set_option maxRecDepth 20000 in
theorem ref29_Size.L0_ok {r_ref29_Size : Tm → Int → Option (Int)} (hr_ref29_Size : ref29_Size.Rec r_ref29_Size) (a0 : Tm) (a0_2 : Value) (a1 : Int) (b1 : Nat) {R : Ending → World → Prop} {w0 : World} {M0 M I : Mem} {K : List Item} (hE : Env w0 M0 M I) (hr_a0_2 : RowS ShTm M a0_2 (Tree.kids a0)) :
  ∀ (k : Nat) (x5_2 : Int) (x6_3 : Int) (r0_ : Int) (h : ref29_Size.L0 r_ref29_Size a0 a1 k x5_2 x6_3 = some r0_) (hk : TT Tryd.prog 13 R 31 w0 I K [(5,.int .i64 r0_)] [(some b1,.cells ((Tm.ce a0 a0_2)) 25 (0,0))]),
   TT Tryd.prog 13 R 31 w0 I (.code (sub [1,1,0,1,0,0] B13) :: .inLoop (sub [1,1,0,1,0,0] B13) :: .inBlock 0 :: K) [(1,.int .i64 a1),(2,ptr b1 0),(5,.int .i64 x5_2),(6,.int .i64 x6_3)] [(some b1,.cells ((Tm.ce a0 a0_2)) 25 (0,0))]:=by
 intro k
 induction k with
 | zero => intro x5_2 x6_3 r0_ h; simp [ref29_Size.L0] at h
 | succ k ih =>
  intro x5_2 x6_3 r0_ h hk
  unfold ref29_Size.L0 at h
  refine TT.seq (x:=sub [1,1,0,1,0,0,0] B13) (y:=sub [1,1,0,1,0,0,1] B13) ?_
  refine TT.seq (x:=sub [1,1,0,1,0,0,0,0] B13) (y:=sub [1,1,0,1,0,0,0,1] B13) ?_
  refine TT.rg [0,1,2,3,4,5,6,7,8,9] [kp,kp,kq,kp,kp,kp,kp,kp,kp,kp] rfl rfl ?_
  refine DL.mv 7 (.int .i64 x6_3) rfl rfl rfl ?_
  refine DL.pu 8 (ptr b1 2) rfl (p_fieldAddr ty_f25_2 rfl rfl) ?_
  refine DL.qu 9 (a0_2) rfl (f_load (j:=0) ty_a22 rfl rfl rfl rfl) ?_
  refine DL.pu 10 (.int .i64 ((Tree.kids a0).length : Int)) rfl (p_slLen ty_u22 (RowS.sl hr_a0_2) rfl rfl) ?_
  refine DL.pu 11 (.bool (decide (x6_3 < ((Tree.kids a0).length : Int)))) rfl (p_lss rfl rfl rfl) ?_
  refine DL.mv 12 (.bool (decide (x6_3 < ((Tree.kids a0).length : Int)))) rfl rfl rfl ?_
  obtain ⟨q78,h79,h80⟩:=bind_some h
  refine DL.cut [(1,.int .i64 a1),(2,ptr b1 0),(5,.int .i64 x5_2),(6,.int .i64 x6_3),(16,.bool q78)] [] ?_ (fun J81 => ?_)
  ·
   refine DL.nil ?_
   by_cases c85 : q78 = true
   ·
    have h86:=ite_true c85 h80
    refine TT.cond_true (x:=sub [1,1,0,1,0,0,0,1,0] B13) (y:=sub [1,1,0,1,0,0,0,1,1] B13) rfl c85 ?_
    refine TT.skip ?_
    refine TT.seq (x:=sub [1,1,0,1,0,0,1,0] B13) (y:=sub [1,1,0,1,0,0,1,1] B13) ?_
    refine TT.block (c:=sub [1,1,0,1,0,0,1,0,0] B13) ?_
    refine TT.rg [0,1,2,3,4,5,6,7,8,9,10,11] [kp,kp,kq,kp,kp,kp,kp,kp,kp,kq,kp,kp] rfl rfl ?_
    refine DL.mv 19 (.int .i64 x5_2) rfl rfl rfl ?_
    refine DL.pu 20 (ptr b1 2) rfl (p_fieldAddr ty_f25_2 rfl rfl) ?_
    refine DL.qu 21 (a0_2) rfl (f_load (j:=0) ty_a22 rfl rfl rfl rfl) ?_
    refine DL.mv 22 (.int .i64 x6_3) rfl rfl rfl ?_
    obtain ⟨g87,h88⟩:=req_some h86
    obtain ⟨g89,h90⟩:=req_some h88
    refine DL.pu 23 (elp a0_2 (x6_3.toNat * 3)) rfl (p_slIx ty_u22 ty_s25 (RowS.some hr_a0_2 g87 g89) g87 g89 rfl rfl rfl) ?_
    obtain ⟨t92,e93,h94⟩:=nm_some h90
    obtain ⟨cs91,hc91,hl91⟩:=id (hr_a0_2)
    have q91:=hl91 _ _ (getD_some Tm.dflt (lt_len g87 g89)); rw [← e93] at q91
    obtain ⟨t92_2,hq91,hr_t92_2⟩:=Tm.op q91
    refine DL.imm (v:=.agg (Tm.ce t92 t92_2)) rfl (Wn.none rfl) rfl rfl rfl (i_loadElA (RowV.mono hc91 hE.mi) hq91 (lt_len g87 g89) ty_a25 ty_s25 rfl rfl) ?_
    refine DL.mv 25 (.int .i64 a1) rfl rfl rfl ?_
    refine DL.mv 26 (.int .i64 x5_2) rfl rfl rfl ?_
    refine DL.pu 27 (.int .i64 (IntKind.i64.wrap (a1 - x5_2))) rfl (p_sub rfl rfl rfl) ?_
    obtain ⟨t95,h96,h97⟩:=bind_some h94
    refine DL.qu 28 (.int .i64 t95) rfl (f_callR rfl rfl (args_val (vs:=[.agg (Tm.ce t92 t92_2),.int .i64 (IntKind.i64.wrap (a1 - x5_2))]) rfl) (fun w => enter13 _ w) (fun w hc => hr_ref29_Size h96 (M:=M) w (hE.ext hc) hr_t92_2)) ?_
    refine DL.pu 29 (.int .i64 (IntKind.i64.wrap (x5_2 + t95))) rfl (p_add rfl rfl rfl) ?_
    refine DL.pu 5 (.int .i64 (IntKind.i64.wrap (x5_2 + t95))) rfl (p_assign rfl rfl) ?_
    refine DL.nil ?_
    refine TT.inBlock ?_
    refine TT.rg [0,1,2] [kp,kp,kp] rfl rfl ?_
    refine DL.mv 17 (.int .i64 x6_3) rfl rfl rfl ?_
    refine DL.pu 18 (.int .i64 (IntKind.i64.wrap (x6_3 + 1))) rfl (p_add rfl rfl rfl) ?_
    refine DL.pu 6 (.int .i64 (IntKind.i64.wrap (x6_3 + 1))) rfl (p_assign rfl rfl) ?_
    refine DL.nil ?_
    refine TT.inLoop ?_
    exact TT.weak (ih (IntKind.i64.wrap (x5_2 + t95)) (IntKind.i64.wrap (x6_3 + 1)) r0_ h97 hk) (Sub.cons rfl (Sub.cons rfl (Sub.cons rfl (Sub.cons rfl (Sub.nil _)))))
   ·
    replace c85:=Bool.eq_false_iff.mpr c85
    have h98:=ite_false c85 h80
    refine TT.cond_false (x:=sub [1,1,0,1,0,0,0,1,0] B13) (y:=sub [1,1,0,1,0,0,0,1,1] B13) rfl c85 ?_
    refine TT.exit rfl ?_
    obtain rfl:=Option.some.inj h98
    exact TT.weak (hk) (Sub.cons rfl (Sub.nil _))
  ·
   by_cases c82 : (decide (x6_3 < ((Tree.kids a0).length : Int))) = true
   ·
    have h83:=ite_true c82 h79
    refine DL.pure (v:=.int .i64 x5_2) rfl (Wn.yes c82 rfl rfl rfl rfl) rfl rfl rfl (p_move rfl rfl) ?_
    refine DL.pure (v:=.int .i64 a1) rfl (Wn.yes c82 rfl rfl rfl rfl) rfl rfl rfl (p_move rfl rfl) ?_
    refine DL.pure (v:=.bool (decide (x5_2 ≤ a1))) rfl (Wn.yes c82 rfl rfl rfl rfl) rfl rfl rfl (p_leq rfl rfl rfl) ?_
    refine DL.pu 16 (.bool (decide (x5_2 ≤ a1))) rfl (p_pick_t c82 rfl rfl rfl) ?_
    obtain rfl:=Option.some.inj h83
    exact DL.weak J81 (Sub.cons rfl (Sub.cons rfl (Sub.cons rfl (Sub.cons rfl (Sub.cons rfl (Sub.nil _))))))
   ·
    replace c82:=Bool.eq_false_iff.mpr c82
    have h84:=ite_false c82 h79
    refine DL.not (i:=6) rfl (Wn.no c82 rfl rfl rfl rfl) rfl rfl ?_
    refine DL.not (i:=7) rfl (Wn.no c82 rfl rfl rfl rfl) rfl rfl ?_
    refine DL.not (i:=8) rfl (Wn.no c82 rfl rfl rfl rfl) rfl rfl ?_
    refine DL.pu 16 (.bool false) rfl (p_pick_f c82 rfl rfl rfl) ?_
    obtain rfl:=Option.some.inj h84
    exact DL.weak J81 (Sub.cons rfl (Sub.cons rfl (Sub.cons rfl (Sub.cons rfl (Sub.cons rfl (Sub.nil _))))))

def ref29_Size.F (r_ref29_Size : Tm → Int → Option (Int)) (a0 : Tm) (a1 : Int) : Option (Int):=(ref29_Size.L0 r_ref29_Size a0 a1 ((a1 - (1 : Int)).toNat + 2) 1 0).bind fun z5_76 => some z5_76
set_option maxRecDepth 20000 in
theorem ref29_Size.okF {r_ref29_Size : Tm → Int → Option (Int)} (hr_ref29_Size : ref29_Size.Rec r_ref29_Size) {a0 : Tm} {a1 : Int} {a0_2 : Value} {r : Int} (h : ref29_Size.F r_ref29_Size a0 a1 = some r) {M : Mem} (w : World) (hM : Ext M (heapOf w)) (hr_a0_2 : RowS ShTm M a0_2 (Tree.kids a0)) : Calls Tryd.prog 13 #[.agg (Tm.ce a0 a0_2),.int .i64 a1] w (Post (fun u => u = .int .i64 r) w):=by
 unfold ref29_Size.F at h
 have hE:=Env.start hM
 refine calls_of_TT (N:=31) (S:=[(0,.agg (Tm.ce a0 a0_2)),(1,.int .i64 a1)]) (c:=B13) Tryd.func13 rfl rfl rfl (by simp) ?_
 show TT _ _ _ _ _ _ [.code (sub [] B13)] _ _
 refine TT.seq (x:=sub [0] B13) (y:=sub [1] B13) ?_
 refine TT.rg [0,1] [(.alloc,none),kp] rfl rfl ?_
 refine DL.new (ob:=.cells ((Tm.ce a0 a0_2)) 25) (mk:=fun b => ptr b 0) (i:=0) rfl (Wn.none rfl) rfl rfl rfl (f_box (v:=.agg (Tm.ce a0 a0_2)) rfl rfl) ?_
 intro b1 hb1
 refine DL.pu 4 (.int .i64 0) rfl (p_assign rfl rfl) ?_
 refine DL.nil ?_
 refine TT.seq (x:=sub [1,0] B13) (y:=sub [1,1] B13) ?_
 refine TT.rg [0] [kp] rfl rfl ?_
 refine DL.pu 5 (.int .i64 1) rfl (p_assign rfl rfl) ?_
 refine DL.nil ?_
 refine TT.seq (x:=sub [1,1,0] B13) (y:=sub [1,1,1] B13) ?_
 refine TT.seq (x:=sub [1,1,0,0] B13) (y:=sub [1,1,0,1] B13) ?_
 refine TT.rg [0] [kp] rfl rfl ?_
 refine DL.pu 6 (.int .i64 0) rfl (p_assign rfl rfl) ?_
 refine DL.nil ?_
 refine TT.block (c:=sub [1,1,0,1,0] B13) ?_
 refine TT.loop (c:=sub [1,1,0,1,0,0] B13) ?_
 obtain ⟨z5_76,h99,h100⟩:=bind_some h
 refine TT.weak (ref29_Size.L0_ok hr_ref29_Size a0 a0_2 a1 b1 hE hr_a0_2 ((a1 - (1 : Int)).toNat + 2) 1 0 z5_76 h99 ( ?_)) (Sub.cons rfl (Sub.cons rfl (Sub.cons rfl (Sub.cons rfl (Sub.nil _)))))
 refine TT.seq (x:=sub [1,1,1,0] B13) (y:=sub [1,1,1,1] B13) ?_
 refine TT.rg [0,1] [kp,kp] rfl rfl ?_
 refine DL.mv 30 (.int .i64 z5_76) rfl rfl rfl ?_
 refine DL.pu 4 (.int .i64 z5_76) rfl (p_assign rfl rfl) ?_
 refine DL.nil ?_
 obtain rfl:=Option.some.inj h100
 exact retnE (rs:=[.tmp 4]) (vs:=[.int .i64 z5_76]) hE.base Tryd.func13 rfl rfl rfl (res_cons (ResV.tmp rfl) res_nil) rfl
theorem ref29_Size.valF {r_ref29_Size : Tm → Int → Option (Int)} (hr_ref29_Size : ref29_Size.Rec r_ref29_Size) {a0 : Tm} {a1 : Int} {a0_2 : Value} {r : Int} (h : ref29_Size.F r_ref29_Size a0 a1 = some r) {M : Mem} (w : World) (hM : Ext M (heapOf w)) (hr_a0_2 : RowS ShTm M a0_2 (Tree.kids a0)) : Calls Tryd.prog 13 #[.agg (Tm.ce a0 a0_2),.int .i64 a1] w fun e w' => e = .returned (.int .i64 r) ∧ Below w.heap.size w w' :=
 calls_value (ref29_Size.okF hr_ref29_Size h w hM hr_a0_2)
def ref29_Size.f : Nat → Tm → Int → Option (Int)
 | 0,_,_ => none
 | k + 1,a0,a1 => ref29_Size.F (ref29_Size.f k) a0 a1
theorem ref29_Size.rec : ∀ k,ref29_Size.Rec (ref29_Size.f k):=by
 intro k
 induction k with
 | zero => intro _ _ _ _ h; simp [ref29_Size.f] at h
 | succ k ih => intro a0 a1 a0_2 r h M w hM hr_a0_2; exact ref29_Size.valF ih h w hM hr_a0_2
theorem ref29_Size.val {k : Nat} {a0 : Tm} {a1 : Int} {a0_2 : Value} {r : Int} (h : ref29_Size.f k a0 a1 = some r) {M : Mem} (w : World) (hM : Ext M (heapOf w)) (hr_a0_2 : RowS ShTm M a0_2 (Tree.kids a0)) : Calls Tryd.prog 13 #[.agg (Tm.ce a0 a0_2),.int .i64 a1] w fun e w' => e = .returned (.int .i64 r) ∧ Below w.heap.size w w' :=
 ref29_Size.rec k h w hM hr_a0_2

@[reducible] def ref29_form.Rec (r_ : Tm → Option (Bool)) : Prop:=∀ {a0 : Tm} {a0_2 : Value} {r : Bool},r_ a0 = some r → ∀ {M : Mem} (w : World) (hM : Ext M (heapOf w)) (hr_a0_2 : RowS ShTm M a0_2 (Tree.kids a0)),Calls Tryd.prog 35 #[.agg (Tm.ce a0 a0_2)] w (fun e w' => e = .returned (.bool r) ∧ Below w.heap.size w w')

/-! ### escutcheon/escutcheonref29.form: function 35 -/
noncomputable def B35 : Code:=bodyOf Tryd.f35
def ref29_form.L0 (r_ref29_form : Tm → Option (Bool)) (a0 : Tm) : Nat → Int → Option ((Unit) ⊕ (Bool))
 | 0,_ => none
 | k + 1,x3_49 => if (decide (x3_49 < ((Tree.kids a0).length : Int))) = true then (req (0 ≤ x3_49) (req (x3_49 < ((Tree.kids a0).length : Int)) (nm ((Tree.kids a0).getD x3_49.toNat Tm.dflt) fun t124 => (r_ref29_form t124).bind fun t127 => if (!t127) = true then (some (.inr false)) else (ref29_form.L0 r_ref29_form a0 k (IntKind.i64.wrap (x3_49 + 1)))))) else (some (.inl ()))
set_option maxRecDepth 20000 in
theorem ref29_form.L0_ok {r_ref29_form : Tm → Option (Bool)} (hr_ref29_form : ref29_form.Rec r_ref29_form) (a0 : Tm) (a0_2 : Value) (b1 : Nat) {r : Bool}  {w0 : World} {M0 M I : Mem} {K : List Item} (hE : Env w0 M0 M I) (hr_a0_2 : RowS ShTm M a0_2 (Tree.kids a0)) :
  ∀ (k : Nat) (x3_49 : Int) (q : (Unit) ⊕ (Bool)) (h : ref29_form.L0 r_ref29_form a0 k x3_49 = some q) (hk : match (generalizing:=false) q with | .inl () => (TT Tryd.prog 35 (Post (fun u => u = .bool r) w0) 50 w0 I K [] [(some b1,.cells ((Tm.ce a0 a0_2)) 25 (0,0))]) | .inr rq => rq = r),
   TT Tryd.prog 35 (Post (fun u => u = .bool r) w0) 50 w0 I (.code (sub [1,1,0,1,0,0] B35) :: .inLoop (sub [1,1,0,1,0,0] B35) :: .inBlock 0 :: K) [(1,ptr b1 0),(3,.int .i64 x3_49)] [(some b1,.cells ((Tm.ce a0 a0_2)) 25 (0,0))]:=by
 intro k
 induction k with
 | zero => intro x3_49 q h; simp [ref29_form.L0] at h
 | succ k ih =>
  intro x3_49 q h hk
  unfold ref29_form.L0 at h
  refine TT.seq (x:=sub [1,1,0,1,0,0,0] B35) (y:=sub [1,1,0,1,0,0,1] B35) ?_
  refine TT.seq (x:=sub [1,1,0,1,0,0,0,0] B35) (y:=sub [1,1,0,1,0,0,0,1] B35) ?_
  refine TT.rg [0,1,2,3,4] [kp,kp,kq,kp,kp] rfl rfl ?_
  refine DL.mv 36 (.int .i64 x3_49) rfl rfl rfl ?_
  refine DL.pu 37 (ptr b1 2) rfl (p_fieldAddr ty_f25_2 rfl rfl) ?_
  refine DL.qu 38 (a0_2) rfl (f_load (j:=0) ty_a22 rfl rfl rfl rfl) ?_
  refine DL.pu 39 (.int .i64 ((Tree.kids a0).length : Int)) rfl (p_slLen ty_u22 (RowS.sl hr_a0_2) rfl rfl) ?_
  refine DL.pu 40 (.bool (decide (x3_49 < ((Tree.kids a0).length : Int)))) rfl (p_lss rfl rfl rfl) ?_
  refine DL.nil ?_
  by_cases c117 : (decide (x3_49 < ((Tree.kids a0).length : Int))) = true
  ·
   have h118:=ite_true c117 h
   refine TT.cond_true (x:=sub [1,1,0,1,0,0,0,1,0] B35) (y:=sub [1,1,0,1,0,0,0,1,1] B35) rfl c117 ?_
   refine TT.skip ?_
   refine TT.seq (x:=sub [1,1,0,1,0,0,1,0] B35) (y:=sub [1,1,0,1,0,0,1,1] B35) ?_
   refine TT.block (c:=sub [1,1,0,1,0,0,1,0,0] B35) ?_
   refine TT.seq (x:=sub [1,1,0,1,0,0,1,0,0,0] B35) (y:=sub [1,1,0,1,0,0,1,0,0,1] B35) ?_
   refine TT.rg [0,1,2,3,4,5,6] [kp,kq,kp,kp,kp,kq,kp] rfl rfl ?_
   refine DL.pu 43 (ptr b1 2) rfl (p_fieldAddr ty_f25_2 rfl rfl) ?_
   refine DL.qu 44 (a0_2) rfl (f_load (j:=0) ty_a22 rfl rfl rfl rfl) ?_
   refine DL.mv 45 (.int .i64 x3_49) rfl rfl rfl ?_
   obtain ⟨g119,h120⟩:=req_some h118
   obtain ⟨g121,h122⟩:=req_some h120
   refine DL.pu 46 (elp a0_2 (x3_49.toNat * 3)) rfl (p_slIx ty_u22 ty_s25 (RowS.some hr_a0_2 g119 g121) g119 g121 rfl rfl rfl) ?_
   obtain ⟨t124,e125,h126⟩:=nm_some h122
   obtain ⟨cs123,hc123,hl123⟩:=id (hr_a0_2)
   have q123:=hl123 _ _ (getD_some Tm.dflt (lt_len g119 g121)); rw [← e125] at q123
   obtain ⟨t124_2,hq123,hr_t124_2⟩:=Tm.op q123
   refine DL.imm (v:=.agg (Tm.ce t124 t124_2)) rfl (Wn.none rfl) rfl rfl rfl (i_loadElA (RowV.mono hc123 hE.mi) hq123 (lt_len g119 g121) ty_a25 ty_s25 rfl rfl) ?_
   obtain ⟨t127,h128,h129⟩:=bind_some h126
   refine DL.qu 48 (.bool t127) rfl (f_callR rfl rfl (args_val (vs:=[.agg (Tm.ce t124 t124_2)]) rfl) (fun w => enter35 _ w) (fun w hc => hr_ref29_form h128 (M:=M) w (hE.ext hc) hr_t124_2)) ?_
   refine DL.pu 49 (.bool (!t127)) rfl (p_not rfl rfl) ?_
   refine DL.nil ?_
   by_cases c130 : (!t127) = true
   ·
    have h131:=ite_true c130 h129
    refine TT.cond_true (x:=sub [1,1,0,1,0,0,1,0,0,1,0] B35) (y:=sub [1,1,0,1,0,0,1,0,0,1,1] B35) rfl c130 ?_
    refine TT.seq (x:=sub [1,1,0,1,0,0,1,0,0,1,0,0] B35) (y:=sub [1,1,0,1,0,0,1,0,0,1,0,1] B35) ?_
    refine TT.rg [0] [kp] rfl rfl ?_
    refine DL.pu 2 (.bool false) rfl (p_assign rfl rfl) ?_
    refine DL.nil ?_
    obtain rfl:=Option.some.inj h131
    have k132 : false = r:=hk
    subst k132
    exact retnE (rs:=[.tmp 2]) (vs:=[.bool false]) hE.base Tryd.func35 rfl rfl rfl (res_cons (ResV.tmp rfl) res_nil) rfl
   ·
    replace c130:=Bool.eq_false_iff.mpr c130
    have h133:=ite_false c130 h129
    refine TT.cond_false (x:=sub [1,1,0,1,0,0,1,0,0,1,0] B35) (y:=sub [1,1,0,1,0,0,1,0,0,1,1] B35) rfl c130 ?_
    refine TT.skip ?_
    refine TT.inBlock ?_
    refine TT.rg [0,1,2] [kp,kp,kp] rfl rfl ?_
    refine DL.mv 41 (.int .i64 x3_49) rfl rfl rfl ?_
    refine DL.pu 42 (.int .i64 (IntKind.i64.wrap (x3_49 + 1))) rfl (p_add rfl rfl rfl) ?_
    refine DL.pu 3 (.int .i64 (IntKind.i64.wrap (x3_49 + 1))) rfl (p_assign rfl rfl) ?_
    refine DL.nil ?_
    refine TT.inLoop ?_
    exact TT.weak (ih (IntKind.i64.wrap (x3_49 + 1)) _ h133 hk) (Sub.cons rfl (Sub.cons rfl (Sub.nil _)))
  ·
   replace c117:=Bool.eq_false_iff.mpr c117
   have h134:=ite_false c117 h
   refine TT.cond_false (x:=sub [1,1,0,1,0,0,0,1,0] B35) (y:=sub [1,1,0,1,0,0,0,1,1] B35) rfl c117 ?_
   refine TT.exit rfl ?_
   obtain rfl:=Option.some.inj h134
   exact TT.weak (hk) (Sub.nil _)

def ref29_form.F (r_ref29_form : Tm → Option (Bool)) (a0 : Tm) : Option (Bool):=(if (decide ((Tm.kind a0) < 1)) = true then (some true) else (some (decide (9 < (Tm.kind a0))))).bind fun q4 => (if q4 = true then (some true) else ((ref29_args.f (Tm.kind a0)).bind fun t19 => some (((Tree.kids a0).length : Int) != t19))).bind fun q12 => (if q12 = true then (some true) else (some (decide ((Tm.num a0) < 0)))).bind fun q23 => (if q23 = true then (some true) else ((if (decide (0 < (Tm.num a0))) = true then (some (decide (2 < (Tm.kind a0)))) else (some false)).bind fun q39 => some q39)).bind fun q31 => if q31 = true then (some false) else (onw (ref29_form.L0 r_ref29_form a0 (((Tree.kids a0).length : Int).toNat + 1) 0) (fun _ => some true) (fun r => some r))
set_option maxRecDepth 20000 in
theorem ref29_form.okF {r_ref29_form : Tm → Option (Bool)} (hr_ref29_form : ref29_form.Rec r_ref29_form) {a0 : Tm} {a0_2 : Value} {r : Bool} (h : ref29_form.F r_ref29_form a0 = some r) {M : Mem} (w : World) (hM : Ext M (heapOf w)) (hr_a0_2 : RowS ShTm M a0_2 (Tree.kids a0)) : Calls Tryd.prog 35 #[.agg (Tm.ce a0 a0_2)] w (Post (fun u => u = .bool r) w):=by
 unfold ref29_form.F at h
 have hE:=Env.start hM
 refine calls_of_TT (N:=50) (S:=[(0,.agg (Tm.ce a0 a0_2))]) (c:=B35) Tryd.func35 rfl rfl rfl (by simp) ?_
 show TT _ _ _ _ _ _ [.code (sub [] B35)] _ _
 refine TT.seq (x:=sub [0] B35) (y:=sub [1] B35) ?_
 refine TT.rg [0,1] [(.alloc,none),kp] rfl rfl ?_
 refine DL.new (ob:=.cells ((Tm.ce a0 a0_2)) 25) (mk:=fun b => ptr b 0) (i:=0) rfl (Wn.none rfl) rfl rfl rfl (f_box (v:=.agg (Tm.ce a0 a0_2)) rfl rfl) ?_
 intro b1 hb1
 refine DL.pu 2 (.bool false) rfl (p_assign rfl rfl) ?_
 refine DL.nil ?_
 refine TT.seq (x:=sub [1,0] B35) (y:=sub [1,1] B35) ?_
 refine TT.seq (x:=sub [1,0,0] B35) (y:=sub [1,0,1] B35) ?_
 refine TT.rgD [0,1,2,3,4,5,6,7,8,9,10,11,12,13,14,15,16,17,18,19,20,21,22,23,24,25,26,27,28,29,30,31] [0,1,3,7,15,31,63,127,255,511,1023,2047,511,4607,12799,32767,65535,131071,262143,524287,1048575,2097151,4194303,8388607,16777215,33554431,67108863,134217727,268435455,536870911,1073741823,2147483647] [kp,(.look,some 0),kp,kp,kp,(.look,some 0),kp,kp,kp,kp,(.look,some 0),kp,kp,(.look,some 0),kq,kp,kp,kp,kp,(.look,some 0),kp,kp,kp,kp,(.look,some 0),kp,kp,kp,(.look,some 0),kp,kp,kp] rfl mixed (by kernel_rfl) ?_
 intro w2 hl2 hj2 hz2
 refine DL.pu 4 (ptr b1 0) rfl (p_fieldAddr ty_f25_0 rfl rfl) ?_
 refine DL.look (v:=.int .i64 (Tm.kind a0)) (x:=0) (b:=b1) (i:=1) rfl (Wn.none rfl) rfl rfl rfl rfl rfl (List.mem_of_getElem? (i:=0) rfl) (b_load ty_a23 rfl rfl rfl) ?_
 refine DL.pu 6 (.bool (decide ((Tm.kind a0) < 1))) rfl (p_lss rfl rfl rfl) ?_
 refine DL.mv 7 (.bool (decide ((Tm.kind a0) < 1))) rfl rfl rfl ?_
 obtain ⟨q4,h5,h6⟩:=bind_some h
 refine DL.cut [(1,ptr b1 0),(11,.bool q4)] [8,9,10,11,12,13,14,15,16,17,18,19,20,21,22,23,24,25,26,27,28,29,30,31] ?_ (fun J7 => ?_)
 ·
  refine DL.mv 12 (.bool q4) rfl rfl rfl ?_
  obtain ⟨q12,h13,h14⟩:=bind_some h6
  refine DL.cut [(1,ptr b1 0),(20,.bool q12)] [17,18,19,20,21,22,23,24,25,26,27,28,29,30,31] ?_ (fun J15 => ?_)
  ·
   refine DL.mv 21 (.bool q12) rfl rfl rfl ?_
   obtain ⟨q23,h24,h25⟩:=bind_some h14
   refine DL.cut [(1,ptr b1 0),(25,.bool q23)] [22,23,24,25,26,27,28,29,30,31] ?_ (fun J26 => ?_)
   ·
    refine DL.mv 26 (.bool q23) rfl rfl rfl ?_
    obtain ⟨q31,h32,h33⟩:=bind_some h25
    refine DL.cut [(1,ptr b1 0),(35,.bool q31)] [] ?_ (fun J34 => ?_)
    ·
     refine DL.nil' hl2 ?_
     by_cases c46 : q31 = true
     ·
      have h47:=ite_true c46 h33
      refine TT.cond_true (x:=sub [1,0,1,0] B35) (y:=sub [1,0,1,1] B35) rfl c46 ?_
      refine TT.seq (x:=sub [1,0,1,0,0] B35) (y:=sub [1,0,1,0,1] B35) ?_
      refine TT.rg [0] [kp] rfl rfl ?_
      refine DL.pu 2 (.bool false) rfl (p_assign rfl rfl) ?_
      refine DL.nil ?_
      obtain rfl:=Option.some.inj h47
      exact retnE (rs:=[.tmp 2]) (vs:=[.bool false]) hE.base Tryd.func35 rfl rfl rfl (res_cons (ResV.tmp rfl) res_nil) rfl
     ·
      replace c46:=Bool.eq_false_iff.mpr c46
      have h48:=ite_false c46 h33
      refine TT.cond_false (x:=sub [1,0,1,0] B35) (y:=sub [1,0,1,1] B35) rfl c46 ?_
      refine TT.skip ?_
      refine TT.seq (x:=sub [1,1,0] B35) (y:=sub [1,1,1] B35) ?_
      refine TT.seq (x:=sub [1,1,0,0] B35) (y:=sub [1,1,0,1] B35) ?_
      refine TT.rg [0] [kp] rfl rfl ?_
      refine DL.pu 3 (.int .i64 0) rfl (p_assign rfl rfl) ?_
      refine DL.nil ?_
      refine TT.block (c:=sub [1,1,0,1,0] B35) ?_
      refine TT.loop (c:=sub [1,1,0,1,0,0] B35) ?_
      rcases onw_some h48 with ⟨_,h135,h136⟩ | ⟨r138,h135,h136⟩
      ·
       refine TT.weak (ref29_form.L0_ok hr_ref29_form a0 a0_2 b1 hE hr_a0_2 (((Tree.kids a0).length : Int).toNat + 1) 0 (.inl ()) h135 (?_)) (Sub.cons rfl (Sub.cons rfl (Sub.nil _)))
       show TT _ _ _ _ _ _ _ _ _
       refine TT.seq (x:=sub [1,1,1,0] B35) (y:=sub [1,1,1,1] B35) ?_
       refine TT.rg [0] [kp] rfl rfl ?_
       refine DL.pu 2 (.bool true) rfl (p_assign rfl rfl) ?_
       refine DL.nil ?_
       obtain rfl:=Option.some.inj h136
       exact retnE (rs:=[.tmp 2]) (vs:=[.bool true]) hE.base Tryd.func35 rfl rfl rfl (res_cons (ResV.tmp rfl) res_nil) rfl
      ·
       obtain rfl:=Option.some.inj h136
       exact TT.weak (ref29_form.L0_ok hr_ref29_form a0 a0_2 b1 hE hr_a0_2 (((Tree.kids a0).length : Int).toNat + 1) 0 (.inr r138) h135 rfl) (Sub.cons rfl (Sub.cons rfl (Sub.nil _)))
    ·
     by_cases c35 : q23 = true
     ·
      have h36:=ite_true c35 h32
      refine DL.not (i:=23) rfl (Wn.yes c35 rfl rfl rfl rfl) rfl rfl ?_
      refine DL.not (i:=24) rfl (Wn.yes c35 rfl rfl rfl rfl) rfl rfl ?_
      refine DL.not (i:=25) rfl (Wn.yes c35 rfl rfl rfl rfl) rfl rfl ?_
      refine DL.not (i:=26) rfl (Wn.yes c35 rfl rfl rfl rfl) rfl rfl ?_
      refine DL.not (i:=27) rfl (Wn.undef rfl rfl rfl) rfl rfl ?_
      refine DL.not (i:=28) rfl (Wn.undef rfl rfl rfl) rfl rfl ?_
      refine DL.not (i:=29) rfl (Wn.undef rfl rfl rfl) rfl rfl ?_
      refine DL.not (i:=30) rfl (Wn.yes c35 rfl rfl rfl rfl) rfl rfl ?_
      refine DL.pu 35 (.bool true) rfl (p_pick_t c35 rfl rfl rfl) ?_
      obtain rfl:=Option.some.inj h36
      exact DL.weak J34 (Sub.cons rfl (Sub.cons rfl (Sub.nil _)))
     ·
      replace c35:=Bool.eq_false_iff.mpr c35
      have h37:=ite_false c35 h32
      refine DL.pure (v:=ptr b1 1) rfl (Wn.no c35 rfl rfl rfl rfl) rfl rfl rfl (p_fieldAddr ty_f25_1 rfl rfl) ?_
      refine DL.look (v:=.int .i64 (Tm.num a0)) (x:=0) (b:=b1) (i:=24) rfl (Wn.no c35 rfl rfl rfl rfl) rfl rfl rfl rfl rfl (List.mem_of_getElem? (i:=0) rfl) (b_load ty_a3 rfl rfl rfl) ?_
      refine DL.pure (v:=.bool (decide (0 < (Tm.num a0)))) rfl (Wn.no c35 rfl rfl rfl rfl) rfl rfl rfl (p_gtr rfl rfl rfl) ?_
      refine DL.pure (v:=.bool (decide (0 < (Tm.num a0)))) rfl (Wn.no c35 rfl rfl rfl rfl) rfl rfl rfl (p_move rfl rfl) ?_
      obtain ⟨q39,h40,h41⟩:=bind_some h37
      refine DL.cut [(1,ptr b1 0),(26,.bool q23),(34,.bool q39)] [31] ?_ (fun J42 => ?_)
      ·
       refine DL.pu 35 (.bool q39) rfl (p_pick_f c35 rfl rfl rfl) ?_
       obtain rfl:=Option.some.inj h41
       exact DL.weak J34 (Sub.cons rfl (Sub.cons rfl (Sub.nil _)))
      ·
       by_cases c43 : (decide (0 < (Tm.num a0))) = true
       ·
        have h44:=ite_true c43 h40
        refine DL.pure (v:=ptr b1 0) rfl (Wn.yes c43 rfl rfl rfl rfl) rfl rfl rfl (p_fieldAddr ty_f25_0 rfl rfl) ?_
        refine DL.look (v:=.int .i64 (Tm.kind a0)) (x:=0) (b:=b1) (i:=28) rfl (Wn.yes c43 rfl rfl rfl rfl) rfl rfl rfl rfl rfl (List.mem_of_getElem? (i:=0) rfl) (b_load ty_a23 rfl rfl rfl) ?_
        refine DL.pure (v:=.bool (decide (2 < (Tm.kind a0)))) rfl (Wn.yes c43 rfl rfl rfl rfl) rfl rfl rfl (p_gtr rfl rfl rfl) ?_
        refine DL.pure (v:=.bool (decide (2 < (Tm.kind a0)))) rfl (Wn.no c35 rfl rfl rfl rfl) rfl rfl rfl (p_pick_t c43 rfl rfl rfl) ?_
        obtain rfl:=Option.some.inj h44
        exact DL.weak J42 (Sub.cons rfl (Sub.cons rfl (Sub.cons rfl (Sub.nil _))))
       ·
        replace c43:=Bool.eq_false_iff.mpr c43
        have h45:=ite_false c43 h40
        refine DL.not (i:=27) rfl (Wn.no c43 rfl rfl rfl rfl) rfl rfl ?_
        refine DL.not (i:=28) rfl (Wn.no c43 rfl rfl rfl rfl) rfl rfl ?_
        refine DL.not (i:=29) rfl (Wn.no c43 rfl rfl rfl rfl) rfl rfl ?_
        refine DL.pure (v:=.bool false) rfl (Wn.no c35 rfl rfl rfl rfl) rfl rfl rfl (p_pick_f c43 rfl rfl rfl) ?_
        obtain rfl:=Option.some.inj h45
        exact DL.weak J42 (Sub.cons rfl (Sub.cons rfl (Sub.cons rfl (Sub.nil _))))
   ·
    by_cases c27 : q12 = true
    ·
     have h28:=ite_true c27 h24
     refine DL.not (i:=18) rfl (Wn.yes c27 rfl rfl rfl rfl) rfl rfl ?_
     refine DL.not (i:=19) rfl (Wn.yes c27 rfl rfl rfl rfl) rfl rfl ?_
     refine DL.not (i:=20) rfl (Wn.yes c27 rfl rfl rfl rfl) rfl rfl ?_
     refine DL.pu 25 (.bool true) rfl (p_pick_t c27 rfl rfl rfl) ?_
     obtain rfl:=Option.some.inj h28
     exact DL.weak J26 (Sub.cons rfl (Sub.cons rfl (Sub.nil _)))
    ·
     replace c27:=Bool.eq_false_iff.mpr c27
     have h29:=ite_false c27 h24
     refine DL.pure (v:=ptr b1 1) rfl (Wn.no c27 rfl rfl rfl rfl) rfl rfl rfl (p_fieldAddr ty_f25_1 rfl rfl) ?_
     refine DL.look (v:=.int .i64 (Tm.num a0)) (x:=0) (b:=b1) (i:=19) rfl (Wn.no c27 rfl rfl rfl rfl) rfl rfl rfl rfl rfl (List.mem_of_getElem? (i:=0) rfl) (b_load ty_a3 rfl rfl rfl) ?_
     refine DL.pure (v:=.bool (decide ((Tm.num a0) < 0))) rfl (Wn.no c27 rfl rfl rfl rfl) rfl rfl rfl (p_lss rfl rfl rfl) ?_
     refine DL.pu 25 (.bool (decide ((Tm.num a0) < 0))) rfl (p_pick_f c27 rfl rfl rfl) ?_
     obtain rfl:=Option.some.inj h29
     exact DL.weak J26 (Sub.cons rfl (Sub.cons rfl (Sub.nil _)))
  ·
   by_cases c16 : q4 = true
   ·
    have h17:=ite_true c16 h13
    refine DL.not (i:=9) rfl (Wn.yes c16 rfl rfl rfl rfl) rfl rfl ?_
    refine DL.not (i:=10) rfl (Wn.yes c16 rfl rfl rfl rfl) rfl rfl ?_
    refine DL.not (i:=11) rfl (Wn.yes c16 rfl rfl rfl rfl) rfl rfl ?_
    refine DL.not (i:=12) rfl (Wn.yes c16 rfl rfl rfl rfl) rfl rfl ?_
    refine DL.not (i:=13) rfl (Wn.yes c16 rfl rfl rfl rfl) rfl rfl ?_
    refine DL.not (i:=14) rfl (Wn.yes c16 rfl rfl rfl rfl) rfl rfl ?_
    refine DL.not (i:=15) rfl (Wn.yes c16 rfl rfl rfl rfl) rfl rfl ?_
    refine DL.pu 20 (.bool true) rfl (p_pick_t c16 rfl rfl rfl) ?_
    obtain rfl:=Option.some.inj h17
    exact DL.weak J15 (Sub.cons rfl (Sub.cons rfl (Sub.nil _)))
   ·
    replace c16:=Bool.eq_false_iff.mpr c16
    have h18:=ite_false c16 h13
    refine DL.pure (v:=ptr b1 2) rfl (Wn.no c16 rfl rfl rfl rfl) rfl rfl rfl (p_fieldAddr ty_f25_2 rfl rfl) ?_
    refine DL.look (v:=a0_2) (x:=0) (b:=b1) (i:=10) rfl (Wn.no c16 rfl rfl rfl rfl) rfl rfl rfl rfl rfl (List.mem_of_getElem? (i:=0) rfl) (b_load ty_a22 rfl rfl rfl) ?_
    refine DL.pure (v:=.int .i64 ((Tree.kids a0).length : Int)) rfl (Wn.no c16 rfl rfl rfl rfl) rfl rfl rfl (p_slLen ty_u22 (RowS.sl hr_a0_2) rfl rfl) ?_
    refine DL.pure (v:=ptr b1 0) rfl (Wn.no c16 rfl rfl rfl rfl) rfl rfl rfl (p_fieldAddr ty_f25_0 rfl rfl) ?_
    refine DL.look (v:=.int .i64 (Tm.kind a0)) (x:=0) (b:=b1) (i:=13) rfl (Wn.no c16 rfl rfl rfl rfl) rfl rfl rfl rfl rfl (List.mem_of_getElem? (i:=0) rfl) (b_load ty_a23 rfl rfl rfl) ?_
    obtain ⟨t19,h20,h21⟩:=bind_some h18
    refine DL.quiet (v:=.int .i64 t19) rfl (Wn.no c16 rfl rfl rfl rfl) rfl rfl rfl (f_callR rfl rfl (args_val (vs:=[.int .i64 (Tm.kind a0)]) rfl) (fun w => enter53 _ w) (fun w hc => ref29_args.val h20 (M:=M) w (hE.ext hc) )) ?_
    refine DL.pure (v:=.bool (((Tree.kids a0).length : Int) != t19)) rfl (Wn.no c16 rfl rfl rfl rfl) rfl rfl rfl (p_neq rfl rfl rfl) ?_
    refine DL.pu 20 (.bool (((Tree.kids a0).length : Int) != t19)) rfl (p_pick_f c16 rfl rfl rfl) ?_
    obtain rfl:=Option.some.inj h21
    exact DL.weak J15 (Sub.cons rfl (Sub.cons rfl (Sub.nil _)))
 ·
  by_cases c8 : (decide ((Tm.kind a0) < 1)) = true
  ·
   have h9:=ite_true c8 h5
   refine DL.not (i:=4) rfl (Wn.yes c8 rfl rfl rfl rfl) rfl rfl ?_
   refine DL.not (i:=5) rfl (Wn.yes c8 rfl rfl rfl rfl) rfl rfl ?_
   refine DL.not (i:=6) rfl (Wn.yes c8 rfl rfl rfl rfl) rfl rfl ?_
   refine DL.pu 11 (.bool true) rfl (p_pick_t c8 rfl rfl rfl) ?_
   obtain rfl:=Option.some.inj h9
   exact DL.weak J7 (Sub.cons rfl (Sub.cons rfl (Sub.nil _)))
  ·
   replace c8:=Bool.eq_false_iff.mpr c8
   have h10:=ite_false c8 h5
   refine DL.pure (v:=ptr b1 0) rfl (Wn.no c8 rfl rfl rfl rfl) rfl rfl rfl (p_fieldAddr ty_f25_0 rfl rfl) ?_
   refine DL.look (v:=.int .i64 (Tm.kind a0)) (x:=0) (b:=b1) (i:=5) rfl (Wn.no c8 rfl rfl rfl rfl) rfl rfl rfl rfl rfl (List.mem_of_getElem? (i:=0) rfl) (b_load ty_a23 rfl rfl rfl) ?_
   refine DL.pure (v:=.bool (decide (9 < (Tm.kind a0)))) rfl (Wn.no c8 rfl rfl rfl rfl) rfl rfl rfl (p_gtr rfl rfl rfl) ?_
   refine DL.pu 11 (.bool (decide (9 < (Tm.kind a0)))) rfl (p_pick_f c8 rfl rfl rfl) ?_
   obtain rfl:=Option.some.inj h10
   exact DL.weak J7 (Sub.cons rfl (Sub.cons rfl (Sub.nil _)))
theorem ref29_form.valF {r_ref29_form : Tm → Option (Bool)} (hr_ref29_form : ref29_form.Rec r_ref29_form) {a0 : Tm} {a0_2 : Value} {r : Bool} (h : ref29_form.F r_ref29_form a0 = some r) {M : Mem} (w : World) (hM : Ext M (heapOf w)) (hr_a0_2 : RowS ShTm M a0_2 (Tree.kids a0)) : Calls Tryd.prog 35 #[.agg (Tm.ce a0 a0_2)] w fun e w' => e = .returned (.bool r) ∧ Below w.heap.size w w' :=
 calls_value (ref29_form.okF hr_ref29_form h w hM hr_a0_2)
def ref29_form.f : Nat → Tm → Option (Bool)
 | 0,_ => none
 | k + 1,a0 => ref29_form.F (ref29_form.f k) a0
theorem ref29_form.rec : ∀ k,ref29_form.Rec (ref29_form.f k):=by
 intro k
 induction k with
 | zero => intro _ _ _ h; simp [ref29_form.f] at h
 | succ k ih => intro a0 a0_2 r h M w hM hr_a0_2; exact ref29_form.valF ih h w hM hr_a0_2
theorem ref29_form.val {k : Nat} {a0 : Tm} {a0_2 : Value} {r : Bool} (h : ref29_form.f k a0 = some r) {M : Mem} (w : World) (hM : Ext M (heapOf w)) (hr_a0_2 : RowS ShTm M a0_2 (Tree.kids a0)) : Calls Tryd.prog 35 #[.agg (Tm.ce a0 a0_2)] w fun e w' => e = .returned (.bool r) ∧ Below w.heap.size w w' :=
 ref29_form.rec k h w hM hr_a0_2

/-! ### escutcheon/escutcheonref29.May: function 15 -/
noncomputable def B15 : Code:=bodyOf Tryd.f15
def ref29_May.f (a0 : Tm) : Option (Bool):=(ref29_Size.f (Tm.fuel a0) a0 2000).bind fun t2 => (if (decide (t2 ≤ 2000)) = true then ((ref29_form.f (Tm.fuel a0) a0).bind fun t12 => some t12) else (some false)).bind fun q6 => some q6
set_option maxRecDepth 20000 in
theorem ref29_May.ok {a0 : Tm} {a0_2 : Value} {r : Bool} (h : ref29_May.f a0 = some r) {M : Mem} (w : World) (hM : Ext M (heapOf w)) (hr_a0_2 : RowS ShTm M a0_2 (Tree.kids a0)) : Calls Tryd.prog 15 #[.agg (Tm.ce a0 a0_2)] w (Post (fun u => u = .bool r) w):=by
 unfold ref29_May.f at h
 have hE:=Env.start hM
 refine calls_of_TT (N:=10) (S:=[(0,.agg (Tm.ce a0 a0_2))]) (c:=B15) Tryd.func15 rfl rfl rfl (by simp) ?_
 show TT _ _ _ _ _ _ [.code (sub [] B15)] _ _
 refine TT.seq (x:=sub [0] B15) (y:=sub [1] B15) ?_
 refine TT.rg [0,1] [(.alloc,none),kp] rfl rfl ?_
 refine DL.new (ob:=.cells ((Tm.ce a0 a0_2)) 25) (mk:=fun b => ptr b 0) (i:=0) rfl (Wn.none rfl) rfl rfl rfl (f_box (v:=.agg (Tm.ce a0 a0_2)) rfl rfl) ?_
 intro b1 hb1
 refine DL.pu 2 (.bool false) rfl (p_assign rfl rfl) ?_
 refine DL.nil ?_
 refine TT.seq (x:=sub [1,0] B15) (y:=sub [1,1] B15) ?_
 refine TT.rg [0,1,2,3,4,5,6,7] [kq,kq,kp,kp,kq,kq,kp,kp] rfl rfl ?_
 refine DL.qu 3 (.agg (Tm.ce a0 a0_2)) rfl (f_loadA (j:=0) ty_a25 ty_s25 rfl rfl rfl rfl) ?_
 obtain ⟨t2,h3,h4⟩:=bind_some h
 refine DL.qu 4 (.int .i64 t2) rfl (f_callR rfl rfl (args_val (vs:=[.agg (Tm.ce a0 a0_2),.int .i64 2000]) rfl) (fun w => enter13 _ w) (fun w hc => ref29_Size.val h3 (M:=M) w (hE.ext hc) hr_a0_2)) ?_
 refine DL.pu 5 (.bool (decide (t2 ≤ 2000))) rfl (p_leq rfl rfl rfl) ?_
 refine DL.mv 6 (.bool (decide (t2 ≤ 2000))) rfl rfl rfl ?_
 obtain ⟨q6,h7,h8⟩:=bind_some h4
 refine DL.cut [(9,.bool q6)] [7] ?_ (fun J9 => ?_)
 ·
  refine DL.pu 2 (.bool q6) rfl (p_assign rfl rfl) ?_
  refine DL.nil ?_
  obtain rfl:=Option.some.inj h8
  exact retnE (rs:=[.tmp 2]) (vs:=[.bool q6]) hE.base Tryd.func15 rfl rfl rfl (res_cons (ResV.tmp rfl) res_nil) rfl
 ·
  by_cases c10 : (decide (t2 ≤ 2000)) = true
  ·
   have h11:=ite_true c10 h7
   refine DL.quiet (v:=.agg (Tm.ce a0 a0_2)) rfl (Wn.yes c10 rfl rfl rfl rfl) rfl rfl rfl (f_loadA (j:=0) ty_a25 ty_s25 rfl rfl rfl rfl) ?_
   obtain ⟨t12,h13,h14⟩:=bind_some h11
   refine DL.quiet (v:=.bool t12) rfl (Wn.yes c10 rfl rfl rfl rfl) rfl rfl rfl (f_callR rfl rfl (args_val (vs:=[.agg (Tm.ce a0 a0_2)]) rfl) (fun w => enter35 _ w) (fun w hc => ref29_form.val h13 (M:=M) w (hE.ext hc) hr_a0_2)) ?_
   refine DL.pu 9 (.bool t12) rfl (p_pick_t c10 rfl rfl rfl) ?_
   obtain rfl:=Option.some.inj h14
   exact DL.weak J9 (Sub.cons rfl (Sub.nil _))
  ·
   replace c10:=Bool.eq_false_iff.mpr c10
   have h15:=ite_false c10 h7
   refine DL.not (i:=4) rfl (Wn.no c10 rfl rfl rfl rfl) rfl rfl ?_
   refine DL.not (i:=5) rfl (Wn.no c10 rfl rfl rfl rfl) rfl rfl ?_
   refine DL.pu 9 (.bool false) rfl (p_pick_f c10 rfl rfl rfl) ?_
   obtain rfl:=Option.some.inj h15
   exact DL.weak J9 (Sub.cons rfl (Sub.nil _))
theorem ref29_May.val {a0 : Tm} {a0_2 : Value} {r : Bool} (h : ref29_May.f a0 = some r) {M : Mem} (w : World) (hM : Ext M (heapOf w)) (hr_a0_2 : RowS ShTm M a0_2 (Tree.kids a0)) : Calls Tryd.prog 15 #[.agg (Tm.ce a0 a0_2)] w fun e w' => e = .returned (.bool r) ∧ Below w.heap.size w w' :=
 calls_value (ref29_May.ok h w hM hr_a0_2)

/-! ### escutcheon/escutcheonref29.Much: function 12 -/
/-! ### escutcheon/escutcheonlaw29.all: function 14 -/
@[reducible] def ref29_Equal.Rec (r_ : Tm → Tm → Option (Bool)) : Prop:=∀ {a0 : Tm} {a1 : Tm} {a0_2 : Value} {a1_2 : Value} {r : Bool},r_ a0 a1 = some r → ∀ {M : Mem} (w : World) (hM : Ext M (heapOf w)) (hr_a0_2 : RowS ShTm M a0_2 (Tree.kids a0)) (hr_a1_2 : RowS ShTm M a1_2 (Tree.kids a1)),Calls Tryd.prog 20 #[.agg (Tm.ce a0 a0_2),.agg (Tm.ce a1 a1_2)] w (fun e w' => e = .returned (.bool r) ∧ Below w.heap.size w w')

/-! ### escutcheon/escutcheonref29.Equal: function 20 -/
/-! ### escutcheon/escutcheonref29.in: function 44 -/
@[reducible] def law29_bare.Rec (r_ : Tm → Int → Option (Bool)) : Prop:=∀ {a0 : Tm} {a1 : Int} {a0_2 : Value} {r : Bool},r_ a0 a1 = some r → ∀ {M : Mem} (w : World) (hM : Ext M (heapOf w)) (hr_a0_2 : RowS ShTm M a0_2 (Tree.kids a0)),Calls Tryd.prog 18 #[.agg (Tm.ce a0 a0_2),.int .i64 a1] w (fun e w' => e = .returned (.bool r) ∧ Below w.heap.size w w')

end Go.Proofs.YtfbogkhgfaibbaaDoor
