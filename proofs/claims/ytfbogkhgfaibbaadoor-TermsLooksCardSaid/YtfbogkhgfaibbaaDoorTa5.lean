import Derived.Test.YtfbogkhgfaibbaaDoorTa4
namespace Go.Proofs.YtfbogkhgfaibbaaDoor
open Go Go.HW Go.RowKit
set_option linter.unusedVariables false
set_option linter.unusedSimpArgs false

/-! ### escutcheon/escutcheonref29.Order: function 17 -/
noncomputable def B17 : Code:=bodyOf Tryd.f17
def ref29_Order.L0 (r_ref29_Order : Tm → Option (Tm)) (a0 : Tm) : Nat → (List Tm) → Int → Option (List Tm)
 | 0,_,_ => none
 | k + 1,y_5,x4_6 => if (decide (x4_6 < ((Tree.kids a0).length : Int))) = true then (req (0 ≤ x4_6) (req (x4_6 < ((Tree.kids a0).length : Int)) (nm ((Tree.kids a0).getD x4_6.toNat Tm.dflt) fun t89 => (r_ref29_Order t89).bind fun t92 => req (y_5.length + [t92].length ≤ 1099511627776) (ref29_Order.L0 r_ref29_Order a0 k (y_5 ++ [t92]) (IntKind.i64.wrap (x4_6 + 1)))))) else (some y_5)
set_option maxRecDepth 20000 in
theorem ref29_Order.L0_ok {r_ref29_Order : Tm → Option (Tm)} (hr_ref29_Order : ref29_Order.Rec r_ref29_Order) (a0 : Tm) (a0_2 : Value) (b1 : Nat) (b2 : Nat) (b3 : Nat) {R : Ending → World → Prop} {w0 : World} {M0 Mb : Mem} {K : List Item} (hG : Glob Mb) (hr_a0_2 : RowS ShTm Mb a0_2 (Tree.kids a0)) :
  ∀ (k : Nat) (M I : Mem) (hE : Env w0 M0 M I) (hx : Ext Mb M) (y_5 : List Tm) (x4_6 : Int) (y_5_v : Value) (y_5_c : Array Value) (r0_ : List Tm) (ho_y_5 : OwnS ShTm M y_5_v y_5_c y_5) (h : ref29_Order.L0 r_ref29_Order a0 k y_5 x4_6 = some r0_) (hk : ∀ (M' I' : Mem),Env w0 M0 M' I' → Ext Mb M' → ∀ (z_o4_80_v : Value),∀ (z_o4_80_c : Array Value),OwnS ShTm M' z_o4_80_v z_o4_80_c r0_ → TT Tryd.prog 17 R 59 w0 I' K [(2,ptr b2 0),(3,ptr b3 0)] [(Value.ownBlock z_o4_80_v,.cells z_o4_80_c 25 (0,0)),(some b3,.cells ((Tm.ce a0 z_o4_80_v)) 25 (0,0)),(some b2,.cells (#[.int .i64 0,.int .i64 0,(.slice none 0 0)]) 25 (0,0)),(some b1,.cells ((Tm.ce a0 a0_2)) 25 (0,0))]),
   TT Tryd.prog 17 R 59 w0 I (.code (sub [1,1,0,1,0,0] B17) :: .inLoop (sub [1,1,0,1,0,0] B17) :: .inBlock 0 :: K) [(1,ptr b1 0),(2,ptr b2 0),(3,ptr b3 0),(4,.int .i64 x4_6)] [(Value.ownBlock y_5_v,.cells y_5_c 25 (0,0)),(some b3,.cells ((Tm.ce a0 y_5_v)) 25 (0,0)),(some b2,.cells (#[.int .i64 0,.int .i64 0,(.slice none 0 0)]) 25 (0,0)),(some b1,.cells ((Tm.ce a0 a0_2)) 25 (0,0))]:=by
 intro k
 induction k with
 | zero => intro M I hE hx y_5 x4_6 y_5_v y_5_c r0_ ho_y_5 h; simp [ref29_Order.L0] at h
 | succ k ih =>
  intro M I hE hx y_5 x4_6 y_5_v y_5_c r0_ ho_y_5 h hk
  unfold ref29_Order.L0 at h
  refine TT.seq (x:=sub [1,1,0,1,0,0,0] B17) (y:=sub [1,1,0,1,0,0,1] B17) ?_
  refine TT.seq (x:=sub [1,1,0,1,0,0,0,0] B17) (y:=sub [1,1,0,1,0,0,0,1] B17) ?_
  refine TT.rg [0,1,2,3,4] [kp,kp,kq,kp,kp] rfl rfl ?_
  refine DL.mv 10 (.int .i64 x4_6) rfl rfl rfl ?_
  refine DL.pu 11 (ptr b1 2) rfl (p_fieldAddr ty_f25_2 rfl rfl) ?_
  refine DL.qu 12 (a0_2) rfl (f_load (j:=3) ty_a22 rfl rfl rfl rfl) ?_
  refine DL.pu 13 (.int .i64 ((Tree.kids a0).length : Int)) rfl (p_slLen ty_u22 (RowS.sl (RowS.mono hr_a0_2 hx)) rfl rfl) ?_
  refine DL.pu 14 (.bool (decide (x4_6 < ((Tree.kids a0).length : Int)))) rfl (p_lss rfl rfl rfl) ?_
  refine DL.nil ?_
  by_cases c81 : (decide (x4_6 < ((Tree.kids a0).length : Int))) = true
  ·
   have h82:=ite_true c81 h
   refine TT.cond_true (x:=sub [1,1,0,1,0,0,0,1,0] B17) (y:=sub [1,1,0,1,0,0,0,1,1] B17) rfl c81 ?_
   refine TT.skip ?_
   refine TT.seq (x:=sub [1,1,0,1,0,0,1,0] B17) (y:=sub [1,1,0,1,0,0,1,1] B17) ?_
   refine TT.block (c:=sub [1,1,0,1,0,0,1,0,0] B17) ?_
   refine TT.rgD [0,1,2,3,4,5,6,7,8,9,10,11] [0,1,0,4,0,28,60,124,252,511,1023,2047] [kp,(.look,some 1),kp,(.look,some 3),kp,kp,kp,kk,(.alloc,none),kx,kp,(.store,some 1)] rfl mixed (by kernel_rfl) ?_
   intro w83 hl83 hj83 hz83
   refine DL.pu 17 (ptr b3 2) rfl (p_fieldAddr ty_f25_2 rfl rfl) ?_
   refine DL.look (v:=y_5_v) (x:=1) (b:=b3) (i:=1) rfl (Wn.none rfl) rfl rfl rfl rfl rfl (List.mem_of_getElem? (i:=1) rfl) (b_load ty_a22 rfl rfl rfl) ?_
   refine DL.pu 19 (ptr b1 2) rfl (p_fieldAddr ty_f25_2 rfl rfl) ?_
   refine DL.look (v:=a0_2) (x:=3) (b:=b1) (i:=3) rfl (Wn.none rfl) rfl rfl rfl rfl rfl (List.mem_of_getElem? (i:=3) rfl) (b_load ty_a22 rfl rfl rfl) ?_
   refine DL.mv 21 (.int .i64 x4_6) rfl rfl rfl ?_
   obtain ⟨g84,h85⟩:=req_some h82
   obtain ⟨g86,h87⟩:=req_some h85
   refine DL.pu 22 (elp a0_2 (x4_6.toNat * 3)) rfl (p_slIx ty_u22 ty_s25 (RowS.some (RowS.mono hr_a0_2 hx) g84 g86) g84 g86 rfl rfl rfl) ?_
   obtain ⟨t89,e90,h91⟩:=nm_some h87
   obtain ⟨cs88,hc88,hl88⟩:=id ((RowS.mono hr_a0_2 hx))
   have q88:=hl88 _ _ (getD_some Tm.dflt (lt_len g84 g86)); rw [← e90] at q88
   obtain ⟨t89_2,hq88,hr_t89_2⟩:=Tm.op q88
   refine DL.imm (v:=.agg (Tm.ce t89 t89_2)) rfl (Wn.none rfl) rfl rfl rfl (i_loadElA (RowV.mono hc88 hE.mi) hq88 (lt_len g84 g86) ty_a25 ty_s25 rfl rfl) ?_
   obtain ⟨t92,h93,h94⟩:=bind_some h91
   refine DL.callF (G:=Value) (u:=fun g => .agg (Tm.ce t92 g)) (Q:=fun g M_ => (RowS ShTm M_ g (Tree.kids t92))) (A:=[(Value.ownBlock y_5_v,.cells y_5_c 25 (0,0)),(some b3,.cells ((Tm.ce a0 y_5_v)) 25 (0,0)),(some b2,.cells (#[.int .i64 0,.int .i64 0,(.slice none 0 0)]) 25 (0,0)),(some b1,.cells ((Tm.ce a0 a0_2)) 25 (0,0))]) (J:=[]) (fun J95 => ((Value.ownBlock y_5_v,.cells y_5_c 25 (0,0)) :: (some b3,.cells ((Tm.ce a0 y_5_v)) 25 (0,0)) :: (some b2,.cells (#[.int .i64 0,.int .i64 0,(.slice none 0 0)]) 25 (0,0)) :: (some b1,.cells ((Tm.ce a0 a0_2)) 25 (0,0)) :: J95)) hl83.2.2.2 hE.nil (List.append_nil _).symm (fun _ => rfl) (by simp) (i:=7) rfl (Wn.none rfl) rfl rfl rfl rfl rfl rfl (args_val (vs:=[.agg (Tm.ce t89 t89_2)]) rfl) (fun w => enter17 _ w) (fun w hc hI => hr_ref29_Order h93 (M:=M) w hI (Glob.mono hG hx) hr_t89_2) ?_
   rintro t92_2 M95 J95 hE95 hx95 hr_t92_2
   show DL _ _ _ _ _ _ _ _ _ _ _ _ ((Value.ownBlock y_5_v,.cells y_5_c 25 (0,0)) :: (some b3,.cells ((Tm.ce a0 y_5_v)) 25 (0,0)) :: (some b2,.cells (#[.int .i64 0,.int .i64 0,(.slice none 0 0)]) 25 (0,0)) :: (some b1,.cells ((Tm.ce a0 a0_2)) 25 (0,0)) :: J95)
   refine DL.newS (M:=M95) (s:=ShTm) (zs:=[t92]) (cells:=[.int .i64 (Tm.kind t92),.int .i64 (Tm.num t92),t92_2]) (n:=1) rfl (by decide) rfl (fun i x hx => by match i,hx with | 0,hx => cases hx; exact (Tm.cl (t:=t92) hr_t92_2) | k + 1,hx => simp at hx) (i:=8) rfl (Wn.none rfl) rfl rfl rfl (f_buildS (n:=1) (vs:=[(0,.agg (Tm.ce t92 t92_2))]) elem22 rfl rfl (by kernel_rfl) rfl (args_val2 rfl)) ?_
   intro s97_v s97_c ho_s97
   obtain ⟨g98,h99⟩:=req_some h94
   refine DL.appendS (M:=M95) (s:=ShTm) (fun s100_v s100_c => ((Value.ownBlock s97_v,.cells s97_c 25 (0,0)) :: (Value.ownBlock s100_v,.cells s100_c 25 (0,0)) :: (some b3,.cells ((Tm.ce a0 y_5_v)) 25 (0,0)) :: (some b2,.cells (#[.int .i64 0,.int .i64 0,(.slice none 0 0)]) 25 (0,0)) :: (some b1,.cells ((Tm.ce a0 a0_2)) 25 (0,0)) :: J95)) elem22 (j:=1) rfl (OwnS.mono ho_y_5 hx95) g98 (by decide) (OwnS.src (i:=0) ho_s97 rfl) (i:=9) rfl (Wn.none rfl) rfl rfl rfl rfl rfl rfl (fun _ _ => rfl) ?_
   intro s100_v s100_c ho_s100
   show DL _ _ _ _ _ _ _ _ _ _ _ _ ((Value.ownBlock s97_v,.cells s97_c 25 (0,0)) :: (Value.ownBlock s100_v,.cells s100_c 25 (0,0)) :: (some b3,.cells ((Tm.ce a0 y_5_v)) 25 (0,0)) :: (some b2,.cells (#[.int .i64 0,.int .i64 0,(.slice none 0 0)]) 25 (0,0)) :: (some b1,.cells ((Tm.ce a0 a0_2)) 25 (0,0)) :: J95)
   refine DL.pu 27 (ptr b3 2) rfl (p_fieldAddr ty_f25_2 rfl rfl) ?_
   refine DL.put (H':=((Value.ownBlock s97_v,.cells s97_c 25 (0,0)) :: (Value.ownBlock s100_v,.cells s100_c 25 (0,0)) :: (some b3,.cells ((Tm.ce a0 s100_v)) 25 (0,0)) :: (some b2,.cells (#[.int .i64 0,.int .i64 0,(.slice none 0 0)]) 25 (0,0)) :: (some b1,.cells ((Tm.ce a0 a0_2)) 25 (0,0)) :: J95)) (i:=11) rfl (Wn.none rfl) rfl rfl (f_store (c:=(Tm.ce a0 y_5_v)) (v:=s100_v) (off:=2) (j:=2) ty_s22 rfl (sl_cells (OwnS.sl ho_s100)) (of_decide_eq_true rfl) (sl_one (OwnS.sl ho_s100)) rfl rfl rfl) (keep_set (j:=2) hj83 rfl rfl rfl) ?_
   refine DL.nil' hl83 ?_
   refine TT.settle (A:=[(Value.ownBlock s97_v,.cells s97_c 25 (0,0)),(Value.ownBlock s100_v,.cells s100_c 25 (0,0)),(some b3,.cells ((Tm.ce a0 s100_v)) 25 (0,0)),(some b2,.cells (#[.int .i64 0,.int .i64 0,(.slice none 0 0)]) 25 (0,0)),(some b1,.cells ((Tm.ce a0 a0_2)) 25 (0,0))]) (J:=J95) hE95 ?_
   intro I101 hE101 hxI101
   refine TT.inBlock ?_
   refine TT.rg [0,1,2] [kp,kp,kp] rfl rfl ?_
   refine DL.mv 15 (.int .i64 x4_6) rfl rfl rfl ?_
   refine DL.pu 16 (.int .i64 (IntKind.i64.wrap (x4_6 + 1))) rfl (p_add rfl rfl rfl) ?_
   refine DL.pu 4 (.int .i64 (IntKind.i64.wrap (x4_6 + 1))) rfl (p_assign rfl rfl) ?_
   refine DL.nil ?_
   refine TT.inLoop ?_
   exact TT.pick [1,2,3,4] (by decide) (TT.weak (ih M95 I101 hE101 (hx.trans hx95) (y_5 ++ [t92]) (IntKind.i64.wrap (x4_6 + 1)) s100_v s100_c r0_ ho_s100 h99 hk) (Sub.cons rfl (Sub.cons rfl (Sub.cons rfl (Sub.cons rfl (Sub.nil _))))))
  ·
   replace c81:=Bool.eq_false_iff.mpr c81
   have h102:=ite_false c81 h
   refine TT.cond_false (x:=sub [1,1,0,1,0,0,0,1,0] B17) (y:=sub [1,1,0,1,0,0,0,1,1] B17) rfl c81 ?_
   refine TT.exit rfl ?_
   obtain rfl:=Option.some.inj h102
   exact TT.weak (hk M I hE hx y_5_v y_5_c ho_y_5) (Sub.cons rfl (Sub.cons rfl (Sub.nil _)))

def ref29_Order.F (r_ref29_Order : Tm → Option (Tm)) (a0 : Tm) : Option (Tm):=(ref29_Order.L0 r_ref29_Order a0 (((Tree.kids a0).length : Int).toNat + 1) ([] : List Tm) 0).bind fun z_o4_80 => (if ((Tm.kind a0) == 8) = true then (req ((0 : Int) < (z_o4_80.length : Int)) (nm (z_o4_80.getD ((0 : Int).toNat) Tm.dflt) fun t117 => (ref29_Text.f (Tm.fuel t117) t117).bind fun t120 => req ((1 : Int) < (z_o4_80.length : Int)) (nm (z_o4_80.getD ((1 : Int).toNat) Tm.dflt) fun t126 => (ref29_Text.f (Tm.fuel t126) t126).bind fun t129 => some (!(lessL t120 t129 || t120 == t129))))) else (some false)).bind fun q108 => (if q108 = true then (req ((1 : Int) < (z_o4_80.length : Int)) (nm (z_o4_80.getD ((1 : Int).toNat) Tm.dflt) fun t144 => req ((0 : Int) < (z_o4_80.length : Int)) (nm (z_o4_80.getD ((0 : Int).toNat) Tm.dflt) fun t150 => req ((1 : Int) < ((z_o4_80.set ((0 : Int).toNat) t144).length : Int)) (some ((z_o4_80.set ((0 : Int).toNat) t144).set ((1 : Int).toNat) t150))))) else (some z_o4_80)).bind fun j_o4_134 => some (Tm.mk (Tm.kind a0) (Tm.num a0) j_o4_134)
set_option maxRecDepth 20000 in
theorem ref29_Order.okF {r_ref29_Order : Tm → Option (Tm)} (hr_ref29_Order : ref29_Order.Rec r_ref29_Order) {a0 : Tm} {a0_2 : Value} {r : Tm} (h : ref29_Order.F r_ref29_Order a0 = some r) {M : Mem} (w : World) (hM : Ext M (heapOf w)) (hG : Glob M) (hr_a0_2 : RowS ShTm M a0_2 (Tree.kids a0)) : Calls Tryd.prog 17 #[.agg (Tm.ce a0 a0_2)] w (PostF (G:=Value) (fun g => .agg (Tm.ce r g)) (fun g M_ => (RowS ShTm M_ g (Tree.kids r))) M w):=by
 unfold ref29_Order.F at h
 have hE:=Env.start hM
 refine calls_of_TT (N:=59) (S:=[(0,.agg (Tm.ce a0 a0_2))]) (c:=B17) Tryd.func17 rfl rfl rfl (by simp) ?_
 show TT _ _ _ _ _ _ [.code (sub [] B17)] _ _
 refine TT.seq (x:=sub [0] B17) (y:=sub [1] B17) ?_
 refine TT.rg [0,1] [(.alloc,none),(.alloc,none)] rfl rfl ?_
 refine DL.new (ob:=.cells ((Tm.ce a0 a0_2)) 25) (mk:=fun b => ptr b 0) (i:=0) rfl (Wn.none rfl) rfl rfl rfl (f_box (v:=.agg (Tm.ce a0 a0_2)) rfl rfl) ?_
 intro b1 hb1
 refine DL.new (ob:=.cells (#[.int .i64 0,.int .i64 0,(.slice none 0 0)]) 25) (mk:=fun b => ptr b 0) (i:=1) rfl (Wn.none rfl) rfl rfl rfl (f_alloc ty_z25 rfl) ?_
 intro b2 hb2
 refine DL.nil ?_
 refine TT.seq (x:=sub [1,0] B17) (y:=sub [1,1] B17) ?_
 refine TT.rg [0,1,2,3,4,5,6] [kp,kq,kp,kq,kp,(.alloc,none),(.store,none)] rfl rfl ?_
 refine DL.pu 5 (ptr b1 0) rfl (p_fieldAddr ty_f25_0 rfl rfl) ?_
 refine DL.qu 6 (.int .i64 (Tm.kind a0)) rfl (f_load (j:=1) ty_a23 rfl rfl rfl rfl) ?_
 refine DL.pu 7 (ptr b1 1) rfl (p_fieldAddr ty_f25_1 rfl rfl) ?_
 refine DL.qu 8 (.int .i64 (Tm.num a0)) rfl (f_load (j:=1) ty_a3 rfl rfl rfl rfl) ?_
 refine DL.pu 9 (.agg #[.int .i64 (Tm.kind a0),.int .i64 (Tm.num a0),(.slice none 0 0)]) rfl (p_build (vs:=[(0,.int .i64 (Tm.kind a0)),(1,.int .i64 (Tm.num a0))]) (fun w => by kernel_rfl) rfl rfl) ?_
 refine DL.new (ob:=.cells (#[.int .i64 0,.int .i64 0,(.slice none 0 0)]) 25) (mk:=fun b => ptr b 0) (i:=5) rfl (Wn.none rfl) rfl rfl rfl (f_alloc ty_z25 rfl) ?_
 intro b3 hb3
 refine DL.put (H':=[(some b3,.cells (#[.int .i64 (Tm.kind a0),.int .i64 (Tm.num a0),(.slice none 0 0)]) 25 (0,0)),(some b2,.cells (#[.int .i64 0,.int .i64 0,(.slice none 0 0)]) 25 (0,0)),(some b1,.cells ((Tm.ce a0 a0_2)) 25 (0,0))]) (i:=6) rfl (Wn.none rfl) rfl rfl (f_storeA (j:=0) ty_s25 rfl rfl rfl (one_cons trivial (one_cons trivial (one_cons (sl_one (RowS.sl (RowS.nil ShTm M))) one_nil))) rfl rfl rfl) (keep_none rfl) ?_
 refine DL.nil ?_
 refine TT.seq (x:=sub [1,1,0] B17) (y:=sub [1,1,1] B17) ?_
 refine TT.seq (x:=sub [1,1,0,0] B17) (y:=sub [1,1,0,1] B17) ?_
 refine TT.rg [0] [kp] rfl rfl ?_
 refine DL.pu 4 (.int .i64 0) rfl (p_assign rfl rfl) ?_
 refine DL.nil ?_
 refine TT.block (c:=sub [1,1,0,1,0] B17) ?_
 refine TT.nilOwn (e:=25) ?_
 refine TT.loop (c:=sub [1,1,0,1,0,0] B17) ?_
 obtain ⟨z_o4_80,h103,h104⟩:=bind_some h
 refine TT.weak (ref29_Order.L0_ok hr_ref29_Order a0 a0_2 b1 b2 b3 hG hr_a0_2 (((Tree.kids a0).length : Int).toNat + 1) M (heapOf w) hE (Ext.refl _) ([] : List Tm) 0 (.slice none 0 0) (#[]) z_o4_80 (OwnS.nil ShTm M) h103 (fun M105 I105 hE105 hx105 z_o4_80_v z_o4_80_c ho_z_o4_80 => ?_)) (Sub.cons rfl (Sub.cons rfl (Sub.cons rfl (Sub.cons rfl (Sub.nil _)))))
 refine TT.seq (x:=sub [1,1,1,0] B17) (y:=sub [1,1,1,1] B17) ?_
 refine TT.seq (x:=sub [1,1,1,0,0] B17) (y:=sub [1,1,1,0,1] B17) ?_
 refine TT.rgD [0,1,2,3,4,5,6,7,8,9,10,11,12,13,14,15] [0,1,3,7,15,31,63,127,255,15,527,1551,3599,8191,16383,32767] [kp,(.look,some 1),kp,kp,kp,(.look,some 1),kp,kq,kq,kp,(.look,some 1),kp,kq,kq,kp,kp] rfl mixed (by kernel_rfl) ?_
 intro w106 hl106 hj106 hz106
 refine DL.pu 28 (ptr b3 0) rfl (p_fieldAddr ty_f25_0 rfl rfl) ?_
 refine DL.look (v:=.int .i64 (Tm.kind a0)) (x:=1) (b:=b3) (i:=1) rfl (Wn.none rfl) rfl rfl rfl rfl rfl (List.mem_of_getElem? (i:=1) rfl) (b_load ty_a23 rfl rfl rfl) ?_
 refine DL.pu 30 (.bool ((Tm.kind a0) == 8)) rfl (p_eql rfl rfl rfl) ?_
 refine DL.mv 31 (.bool ((Tm.kind a0) == 8)) rfl rfl rfl ?_
 obtain ⟨q108,h109,h110⟩:=bind_some h104
 refine DL.cut [(2,ptr b2 0),(3,ptr b3 0),(43,.bool q108)] [] ?_ (fun J111 => ?_)
 ·
  refine DL.nil' hl106 ?_
  obtain ⟨j_o4_134,h135,h136⟩:=bind_some h110
  have J137 : ∀ (j_o4_134_v : Value),∀ (j_o4_134_c : Array Value),OwnS ShTm M105 j_o4_134_v j_o4_134_c j_o4_134 → TT Tryd.prog 17 (PostF (G:=Value) (fun g => .agg (Tm.ce r g)) (fun g M_ => (RowS ShTm M_ g (Tree.kids r))) M w) 59 w I105 (.code (sub [1,1,1,1] B17) :: []) [(2,ptr b2 0),(3,ptr b3 0)] [(Value.ownBlock j_o4_134_v,.cells j_o4_134_c 25 (0,0)),(some b3,.cells ((Tm.ce a0 j_o4_134_v)) 25 (0,0)),(some b2,.cells (#[.int .i64 0,.int .i64 0,(.slice none 0 0)]) 25 (0,0)),(some b1,.cells ((Tm.ce a0 a0_2)) 25 (0,0))]:=by
   intro j_o4_134_v j_o4_134_c ho_j_o4_134
   refine TT.seq (x:=sub [1,1,1,1,0] B17) (y:=sub [1,1,1,1,1] B17) ?_
   refine TT.rg [0,1] [kq,(.store,none)] rfl rfl ?_
   refine DL.qu 58 (.agg (Tm.ce a0 j_o4_134_v)) rfl (f_loadA (j:=1) ty_a25 ty_s25 rfl rfl rfl rfl) ?_
   refine DL.put (H':=[(Value.ownBlock j_o4_134_v,.cells j_o4_134_c 25 (0,0)),(some b3,.cells ((Tm.ce a0 j_o4_134_v)) 25 (0,0)),(some b2,.cells ((Tm.ce a0 j_o4_134_v)) 25 (0,0)),(some b1,.cells ((Tm.ce a0 a0_2)) 25 (0,0))]) (i:=1) rfl (Wn.none rfl) rfl rfl (f_storeA (j:=2) ty_s25 rfl rfl rfl (one_cons trivial (one_cons trivial (one_cons (sl_one (OwnS.sl ho_j_o4_134)) one_nil))) rfl rfl rfl) (keep_none rfl) ?_
   refine DL.nil ?_
   refine TT.freezeAt (j:=0) hE105 rfl ?_
   intro M160 I160 hE160 hx160 hxI160 hb160
   have hr_160 : RowS ShTm M160 j_o4_134_v j_o4_134:=OwnS.stays ho_j_o4_134 hx160 hb160
   show TT _ _ _ _ _ _ _ _ [(some b3,.cells ((Tm.ce a0 j_o4_134_v)) 25 (0,0)),(some b2,.cells ((Tm.ce a0 j_o4_134_v)) 25 (0,0)),(some b1,.cells ((Tm.ce a0 a0_2)) 25 (0,0))]
   obtain rfl:=Option.some.inj h136
   exact retF (rs:=[.cell 2 25]) (vs:=[.agg (Tm.ce a0 j_o4_134_v)]) j_o4_134_v hE160 Tryd.func17 rfl rfl rfl (res_cons (ResV.cell (j:=1) ty_a25 ty_s25 rfl rfl rfl) res_nil) hr_160
  by_cases c133 : q108 = true
  ·
   have h139:=ite_true c133 h135
   refine TT.cond_true (x:=sub [1,1,1,0,1,0] B17) (y:=sub [1,1,1,0,1,1] B17) rfl c133 ?_
   refine TT.rgD [0,1,2,3,4,5,6,7,8,9,10,11,12,13,14,15] [0,1,0,4,0,16,48,112,0,256,768,1792,4083,8179,16383,32767] [kp,(.look,some 1),kp,(.look,some 1),kp,(.look,some 1),kp,kq,kp,(.look,some 1),kp,kq,kp,(.store,some 0),kp,(.store,some 0)] rfl mixed (by kernel_rfl) ?_
   intro w140 hl140 hj140 hz140
   refine DL.pu 44 (ptr b3 2) rfl (p_fieldAddr ty_f25_2 rfl rfl) ?_
   refine DL.look (v:=z_o4_80_v) (x:=1) (b:=b3) (i:=1) rfl (Wn.none rfl) rfl rfl rfl rfl rfl (List.mem_of_getElem? (i:=1) rfl) (b_load ty_a22 rfl rfl rfl) ?_
   refine DL.pu 46 (ptr b3 2) rfl (p_fieldAddr ty_f25_2 rfl rfl) ?_
   refine DL.look (v:=z_o4_80_v) (x:=1) (b:=b3) (i:=3) rfl (Wn.none rfl) rfl rfl rfl rfl rfl (List.mem_of_getElem? (i:=1) rfl) (b_load ty_a22 rfl rfl rfl) ?_
   refine DL.pu 48 (ptr b3 2) rfl (p_fieldAddr ty_f25_2 rfl rfl) ?_
   refine DL.look (v:=z_o4_80_v) (x:=1) (b:=b3) (i:=5) rfl (Wn.none rfl) rfl rfl rfl rfl rfl (List.mem_of_getElem? (i:=1) rfl) (b_load ty_a22 rfl rfl rfl) ?_
   obtain ⟨g141,h142⟩:=req_some h139
   refine DL.pu 50 (elp z_o4_80_v (((1 : Int).toNat) * 3)) rfl (p_slIx ty_u22 ty_s25 (OwnS.some ho_z_o4_80 (by decide) g141) (by decide) g141 rfl rfl rfl) ?_
   obtain ⟨t144,e145,h146⟩:=nm_some h142
   obtain ⟨cs143,hc143,hl143⟩:=id (ho_z_o4_80)
   have q143:=hl143 _ _ (getD_some Tm.dflt (lt_len (by decide) g141)); rw [← e145] at q143
   obtain ⟨t144_2,hq143,hr_t144_2⟩:=Tm.op q143
   refine DL.qu 51 (.agg (Tm.ce t144 t144_2)) rfl (f_loadElA (j:=0) rfl hc143 hq143 (lt_len (by decide) g141) ty_a25 ty_s25 rfl rfl) ?_
   refine DL.pu 52 (ptr b3 2) rfl (p_fieldAddr ty_f25_2 rfl rfl) ?_
   refine DL.look (v:=z_o4_80_v) (x:=1) (b:=b3) (i:=9) rfl (Wn.none rfl) rfl rfl rfl rfl rfl (List.mem_of_getElem? (i:=1) rfl) (b_load ty_a22 rfl rfl rfl) ?_
   obtain ⟨g147,h148⟩:=req_some h146
   refine DL.pu 54 (elp z_o4_80_v (((0 : Int).toNat) * 3)) rfl (p_slIx ty_u22 ty_s25 (OwnS.some ho_z_o4_80 (by decide) g147) (by decide) g147 rfl rfl rfl) ?_
   obtain ⟨t150,e151,h152⟩:=nm_some h148
   obtain ⟨cs149,hc149,hl149⟩:=id (ho_z_o4_80)
   have q149:=hl149 _ _ (getD_some Tm.dflt (lt_len (by decide) g147)); rw [← e151] at q149
   obtain ⟨t150_2,hq149,hr_t150_2⟩:=Tm.op q149
   refine DL.qu 55 (.agg (Tm.ce t150 t150_2)) rfl (f_loadElA (j:=0) rfl hc149 hq149 (lt_len (by decide) g147) ty_a25 ty_s25 rfl rfl) ?_
   refine DL.pu 56 (elp z_o4_80_v (((0 : Int).toNat) * 3)) rfl (p_slIx ty_u22 ty_s25 (OwnS.some ho_z_o4_80 (by decide) g147) (by decide) g147 rfl rfl rfl) ?_
   obtain ⟨c153,c153_e⟩ : ∃ c,c = splice z_o4_80_c (((0 : Int).toNat) * 3) [.int .i64 (Tm.kind t144),.int .i64 (Tm.num t144),t144_2]:=⟨_,rfl⟩
   have ho_154 : OwnS ShTm M105 z_o4_80_v c153 (z_o4_80.set ((0 : Int).toNat) t144):=by rw [c153_e]; exact OwnS.set ho_z_o4_80 (lt_len (by decide) g147) (Tm.cl (t:=t144) hr_t144_2) rfl
   refine DL.put (H':=[(Value.ownBlock z_o4_80_v,.cells c153 25 (0,0)),(some b3,.cells ((Tm.ce a0 z_o4_80_v)) 25 (0,0)),(some b2,.cells (#[.int .i64 0,.int .i64 0,(.slice none 0 0)]) 25 (0,0)),(some b1,.cells ((Tm.ce a0 a0_2)) 25 (0,0))]) (i:=13) rfl (Wn.none rfl) rfl rfl (by rw [c153_e]; exact f_storeElA (j:=0) (vs:=[.int .i64 (Tm.kind t144),.int .i64 (Tm.num t144),t144_2]) ty_s25 rfl (OwnS.V ho_z_o4_80).choose_spec (lt_len (by decide) g147) rfl (one_cons trivial (one_cons trivial (one_cons (sl_one (RowS.sl hr_t144_2)) one_nil))) rfl rfl rfl) (keep_setO (j:=0) hj140 rfl rfl rfl) ?_
   obtain ⟨g155,h156⟩:=req_some h152
   refine DL.pu 57 (elp z_o4_80_v (((1 : Int).toNat) * 3)) rfl (p_slIx ty_u22 ty_s25 (OwnS.some ho_154 (by decide) g155) (by decide) g155 rfl rfl rfl) ?_
   obtain ⟨c157,c157_e⟩ : ∃ c,c = splice c153 (((1 : Int).toNat) * 3) [.int .i64 (Tm.kind t150),.int .i64 (Tm.num t150),t150_2]:=⟨_,rfl⟩
   have ho_158 : OwnS ShTm M105 z_o4_80_v c157 ((z_o4_80.set ((0 : Int).toNat) t144).set ((1 : Int).toNat) t150):=by rw [c157_e]; exact OwnS.set ho_154 (lt_len (by decide) g155) (Tm.cl (t:=t150) hr_t150_2) rfl
   refine DL.put (H':=[(Value.ownBlock z_o4_80_v,.cells c157 25 (0,0)),(some b3,.cells ((Tm.ce a0 z_o4_80_v)) 25 (0,0)),(some b2,.cells (#[.int .i64 0,.int .i64 0,(.slice none 0 0)]) 25 (0,0)),(some b1,.cells ((Tm.ce a0 a0_2)) 25 (0,0))]) (i:=15) rfl (Wn.none rfl) rfl rfl (by rw [c157_e]; exact f_storeElA (j:=0) (vs:=[.int .i64 (Tm.kind t150),.int .i64 (Tm.num t150),t150_2]) ty_s25 rfl (OwnS.V ho_154).choose_spec (lt_len (by decide) g155) rfl (one_cons trivial (one_cons trivial (one_cons (sl_one (RowS.sl hr_t150_2)) one_nil))) rfl rfl rfl) (keep_setO (j:=0) hj140 rfl rfl rfl) ?_
   refine DL.nil' hl140 ?_
   obtain rfl:=Option.some.inj h156
   exact TT.weak (J137 z_o4_80_v c157 ho_158) (Sub.cons rfl (Sub.cons rfl (Sub.nil _)))
  ·
   replace c133:=Bool.eq_false_iff.mpr c133
   have h159:=ite_false c133 h135
   refine TT.cond_false (x:=sub [1,1,1,0,1,0] B17) (y:=sub [1,1,1,0,1,1] B17) rfl c133 ?_
   refine TT.skip ?_
   obtain rfl:=Option.some.inj h159
   exact TT.weak (J137 z_o4_80_v z_o4_80_c ho_z_o4_80) (Sub.cons rfl (Sub.cons rfl (Sub.nil _)))
 ·
  by_cases c112 : ((Tm.kind a0) == 8) = true
  ·
   have h113:=ite_true c112 h109
   refine DL.pure (v:=ptr b3 2) rfl (Wn.yes c112 rfl rfl rfl rfl) rfl rfl rfl (p_fieldAddr ty_f25_2 rfl rfl) ?_
   refine DL.look (v:=z_o4_80_v) (x:=1) (b:=b3) (i:=5) rfl (Wn.yes c112 rfl rfl rfl rfl) rfl rfl rfl rfl rfl (List.mem_of_getElem? (i:=1) rfl) (b_load ty_a22 rfl rfl rfl) ?_
   obtain ⟨g114,h115⟩:=req_some h113
   refine DL.pure (v:=elp z_o4_80_v (((0 : Int).toNat) * 3)) rfl (Wn.yes c112 rfl rfl rfl rfl) rfl rfl rfl (p_slIx ty_u22 ty_s25 (OwnS.some ho_z_o4_80 (by decide) g114) (by decide) g114 rfl rfl rfl) ?_
   obtain ⟨t117,e118,h119⟩:=nm_some h115
   obtain ⟨cs116,hc116,hl116⟩:=id (ho_z_o4_80)
   have q116:=hl116 _ _ (getD_some Tm.dflt (lt_len (by decide) g114)); rw [← e118] at q116
   obtain ⟨t117_2,hq116,hr_t117_2⟩:=Tm.op q116
   refine DL.quiet (v:=.agg (Tm.ce t117 t117_2)) rfl (Wn.yes c112 rfl rfl rfl rfl) rfl rfl rfl (f_loadElA (j:=0) rfl hc116 hq116 (lt_len (by decide) g114) ty_a25 ty_s25 rfl rfl) ?_
   obtain ⟨t120,h121,h122⟩:=bind_some h119
   refine DL.quiet (v:=str t120) rfl (Wn.yes c112 rfl rfl rfl rfl) rfl rfl rfl (f_callR rfl rfl (args_val (vs:=[.agg (Tm.ce t117 t117_2)]) rfl) (fun w => enter27 _ w) (fun w hc => ref29_Text.val h121 (M:=M105) w (hE105.ext hc) (Glob.mono hG hx105) hr_t117_2)) ?_
   refine DL.pure (v:=ptr b3 2) rfl (Wn.yes c112 rfl rfl rfl rfl) rfl rfl rfl (p_fieldAddr ty_f25_2 rfl rfl) ?_
   refine DL.look (v:=z_o4_80_v) (x:=1) (b:=b3) (i:=10) rfl (Wn.yes c112 rfl rfl rfl rfl) rfl rfl rfl rfl rfl (List.mem_of_getElem? (i:=1) rfl) (b_load ty_a22 rfl rfl rfl) ?_
   obtain ⟨g123,h124⟩:=req_some h122
   refine DL.pure (v:=elp z_o4_80_v (((1 : Int).toNat) * 3)) rfl (Wn.yes c112 rfl rfl rfl rfl) rfl rfl rfl (p_slIx ty_u22 ty_s25 (OwnS.some ho_z_o4_80 (by decide) g123) (by decide) g123 rfl rfl rfl) ?_
   obtain ⟨t126,e127,h128⟩:=nm_some h124
   obtain ⟨cs125,hc125,hl125⟩:=id (ho_z_o4_80)
   have q125:=hl125 _ _ (getD_some Tm.dflt (lt_len (by decide) g123)); rw [← e127] at q125
   obtain ⟨t126_2,hq125,hr_t126_2⟩:=Tm.op q125
   refine DL.quiet (v:=.agg (Tm.ce t126 t126_2)) rfl (Wn.yes c112 rfl rfl rfl rfl) rfl rfl rfl (f_loadElA (j:=0) rfl hc125 hq125 (lt_len (by decide) g123) ty_a25 ty_s25 rfl rfl) ?_
   obtain ⟨t129,h130,h131⟩:=bind_some h128
   refine DL.quiet (v:=str t129) rfl (Wn.yes c112 rfl rfl rfl rfl) rfl rfl rfl (f_callR rfl rfl (args_val (vs:=[.agg (Tm.ce t126 t126_2)]) rfl) (fun w => enter27 _ w) (fun w hc => ref29_Text.val h130 (M:=M105) w (hE105.ext hc) (Glob.mono hG hx105) hr_t126_2)) ?_
   refine DL.pure (v:=.bool (!(lessL t120 t129 || t120 == t129))) rfl (Wn.yes c112 rfl rfl rfl rfl) rfl rfl rfl (p_strGt rfl rfl rfl) ?_
   refine DL.pu 43 (.bool (!(lessL t120 t129 || t120 == t129))) rfl (p_pick_t c112 rfl rfl rfl) ?_
   obtain rfl:=Option.some.inj h131
   exact DL.weak J111 (Sub.cons rfl (Sub.cons rfl (Sub.cons rfl (Sub.nil _))))
  ·
   replace c112:=Bool.eq_false_iff.mpr c112
   have h132:=ite_false c112 h109
   refine DL.not (i:=4) rfl (Wn.no c112 rfl rfl rfl rfl) rfl rfl ?_
   refine DL.not (i:=5) rfl (Wn.no c112 rfl rfl rfl rfl) rfl rfl ?_
   refine DL.not (i:=6) rfl (Wn.no c112 rfl rfl rfl rfl) rfl rfl ?_
   refine DL.not (i:=7) rfl (Wn.no c112 rfl rfl rfl rfl) rfl rfl ?_
   refine DL.not (i:=8) rfl (Wn.no c112 rfl rfl rfl rfl) rfl rfl ?_
   refine DL.not (i:=9) rfl (Wn.no c112 rfl rfl rfl rfl) rfl rfl ?_
   refine DL.not (i:=10) rfl (Wn.no c112 rfl rfl rfl rfl) rfl rfl ?_
   refine DL.not (i:=11) rfl (Wn.no c112 rfl rfl rfl rfl) rfl rfl ?_
   refine DL.not (i:=12) rfl (Wn.no c112 rfl rfl rfl rfl) rfl rfl ?_
   refine DL.not (i:=13) rfl (Wn.no c112 rfl rfl rfl rfl) rfl rfl ?_
   refine DL.not (i:=14) rfl (Wn.no c112 rfl rfl rfl rfl) rfl rfl ?_
   refine DL.pu 43 (.bool false) rfl (p_pick_f c112 rfl rfl rfl) ?_
   obtain rfl:=Option.some.inj h132
   exact DL.weak J111 (Sub.cons rfl (Sub.cons rfl (Sub.cons rfl (Sub.nil _))))
def ref29_Order.f : Nat → Tm → Option (Tm)
 | 0,_ => none
 | k + 1,a0 => ref29_Order.F (ref29_Order.f k) a0
theorem ref29_Order.rec : ∀ k,ref29_Order.Rec (ref29_Order.f k):=by
 intro k
 induction k with
 | zero => intro _ _ _ h; simp [ref29_Order.f] at h
 | succ k ih => intro a0 a0_2 r h M w hM hG hr_a0_2; exact ref29_Order.okF ih h w hM hG hr_a0_2
theorem ref29_Order.ok {k : Nat} {a0 : Tm} {a0_2 : Value} {r : Tm} (h : ref29_Order.f k a0 = some r) {M : Mem} (w : World) (hM : Ext M (heapOf w)) (hG : Glob M) (hr_a0_2 : RowS ShTm M a0_2 (Tree.kids a0)) : Calls Tryd.prog 17 #[.agg (Tm.ce a0 a0_2)] w (PostF (G:=Value) (fun g => .agg (Tm.ce r g)) (fun g M_ => (RowS ShTm M_ g (Tree.kids r))) M w) :=
 ref29_Order.rec k h w hM hG hr_a0_2

end Go.Proofs.YtfbogkhgfaibbaaDoor
