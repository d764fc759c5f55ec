import Derived.Test.YtfbogkhgfaibbaaDoorTa5
namespace Go.Proofs.YtfbogkhgfaibbaaDoor
open Go Go.HW Go.RowKit
set_option linter.unusedVariables false
set_option linter.unusedSimpArgs false

/-! ### escutcheon/escutcheonref29.Learn: function 25 -/
noncomputable def B25 : Code:=bodyOf Tryd.f25
def ref29_Learn.L0 (a0 : List Tm) : Nat → (List Tm) → Int → Option (List Tm)
 | 0,_,_ => none
 | k + 1,y_2,x4_3 => if (decide (x4_3 < (a0.length : Int))) = true then (req (0 ≤ x4_3) (req (x4_3 < (a0.length : Int)) (nm (a0.getD x4_3.toNat Tm.dflt) fun t95 => (ref29_Order.f (Tm.fuel t95) t95).bind fun t98 => (ref29_in.f t98 y_2).bind fun t104 => (if (!t104) = true then (req (y_2.length + [t98].length ≤ 1099511627776) (some (y_2 ++ [t98]))) else (some y_2)).bind fun j_o1_108 => ref29_Learn.L0 a0 k j_o1_108 (IntKind.i64.wrap (x4_3 + 1))))) else (some y_2)
set_option maxRecDepth 20000 in
theorem ref29_Learn.L0_ok (a0 : List Tm) (a0_v : Value) {R : Ending → World → Prop} {w0 : World} {M0 Mb : Mem} {K : List Item} (hG : Glob Mb) (hr_a0 : RowS ShTm Mb a0_v a0) :
  ∀ (k : Nat) (M I : Mem) (hE : Env w0 M0 M I) (hx : Ext Mb M) (y_2 : List Tm) (x4_3 : Int) (y_2_v : Value) (y_2_c : Array Value) (r0_ : List Tm) (ho_y_2 : OwnS ShTm M y_2_v y_2_c y_2) (h : ref29_Learn.L0 a0 k y_2 x4_3 = some r0_) (hk : ∀ (M' I' : Mem),Env w0 M0 M' I' → Ext Mb M' → ∀ (z_o1_87_v : Value),∀ (z_o1_87_c : Array Value),OwnS ShTm M' z_o1_87_v z_o1_87_c r0_ → TT Tryd.prog 25 R 94 w0 I' K [(3,z_o1_87_v)] [(Value.ownBlock z_o1_87_v,.cells z_o1_87_c 25 (0,0))]),
   TT Tryd.prog 25 R 94 w0 I (.code (sub [1,1,0,1,0,0] B25) :: .inLoop (sub [1,1,0,1,0,0] B25) :: .inBlock 0 :: K) [(0,a0_v),(3,y_2_v),(4,.int .i64 x4_3)] [(Value.ownBlock y_2_v,.cells y_2_c 25 (0,0))]:=by
 intro k
 induction k with
 | zero => intro M I hE hx y_2 x4_3 y_2_v y_2_c r0_ ho_y_2 h; simp [ref29_Learn.L0] at h
 | succ k ih =>
  intro M I hE hx y_2 x4_3 y_2_v y_2_c r0_ ho_y_2 h hk
  unfold ref29_Learn.L0 at h
  refine TT.seq (x:=sub [1,1,0,1,0,0,0] B25) (y:=sub [1,1,0,1,0,0,1] B25) ?_
  refine TT.seq (x:=sub [1,1,0,1,0,0,0,0] B25) (y:=sub [1,1,0,1,0,0,0,1] B25) ?_
  refine TT.rg [0,1,2,3] [kp,kp,kp,kp] rfl rfl ?_
  refine DL.mv 10 (.int .i64 x4_3) rfl rfl rfl ?_
  refine DL.mv 11 (a0_v) rfl rfl rfl ?_
  refine DL.pu 12 (.int .i64 (a0.length : Int)) rfl (p_slLen ty_u22 (RowS.sl (RowS.mono hr_a0 hx)) rfl rfl) ?_
  refine DL.pu 13 (.bool (decide (x4_3 < (a0.length : Int)))) rfl (p_lss rfl rfl rfl) ?_
  refine DL.nil ?_
  by_cases c88 : (decide (x4_3 < (a0.length : Int))) = true
  ·
   have h89:=ite_true c88 h
   refine TT.cond_true (x:=sub [1,1,0,1,0,0,0,1,0] B25) (y:=sub [1,1,0,1,0,0,0,1,1] B25) rfl c88 ?_
   refine TT.skip ?_
   refine TT.seq (x:=sub [1,1,0,1,0,0,1,0] B25) (y:=sub [1,1,0,1,0,0,1,1] B25) ?_
   refine TT.block (c:=sub [1,1,0,1,0,0,1,0,0] B25) ?_
   refine TT.seq (x:=sub [1,1,0,1,0,0,1,0,0,0] B25) (y:=sub [1,1,0,1,0,0,1,0,0,1] B25) ?_
   refine TT.rg [0,1,2,3,4,5,6] [kp,kp,kp,kp,kk,(.alloc,none),(.store,none)] rfl rfl ?_
   refine DL.mv 16 (a0_v) rfl rfl rfl ?_
   refine DL.mv 17 (.int .i64 x4_3) rfl rfl rfl ?_
   obtain ⟨g90,h91⟩:=req_some h89
   obtain ⟨g92,h93⟩:=req_some h91
   refine DL.pu 18 (elp a0_v (x4_3.toNat * 3)) rfl (p_slIx ty_u22 ty_s25 (RowS.some (RowS.mono hr_a0 hx) g90 g92) g90 g92 rfl rfl rfl) ?_
   obtain ⟨t95,e96,h97⟩:=nm_some h93
   obtain ⟨cs94,hc94,hl94⟩:=id ((RowS.mono hr_a0 hx))
   have q94:=hl94 _ _ (getD_some Tm.dflt (lt_len g90 g92)); rw [← e96] at q94
   obtain ⟨t95_2,hq94,hr_t95_2⟩:=Tm.op q94
   refine DL.imm (v:=.agg (Tm.ce t95 t95_2)) rfl (Wn.none rfl) rfl rfl rfl (i_loadElA (RowV.mono hc94 hE.mi) hq94 (lt_len g90 g92) ty_a25 ty_s25 rfl rfl) ?_
   obtain ⟨t98,h99,h100⟩:=bind_some h97
   refine DL.callF (G:=Value) (u:=fun g => .agg (Tm.ce t98 g)) (Q:=fun g M_ => (RowS ShTm M_ g (Tree.kids t98))) (A:=[(Value.ownBlock y_2_v,.cells y_2_c 25 (0,0))]) (J:=[]) (fun J101 => ((Value.ownBlock y_2_v,.cells y_2_c 25 (0,0)) :: J101)) (Nat.le_refl _) hE.nil (List.append_nil _).symm (fun _ => rfl) (by simp) (i:=4) rfl (Wn.none rfl) rfl rfl rfl rfl rfl rfl (args_val (vs:=[.agg (Tm.ce t95 t95_2)]) rfl) (fun w => enter17 _ w) (fun w hc hI => ref29_Order.ok h99 (M:=M) w hI (Glob.mono hG hx) hr_t95_2) ?_
   rintro t98_2 M101 J101 hE101 hx101 hr_t98_2
   show DL _ _ _ _ _ _ _ _ _ _ _ _ ((Value.ownBlock y_2_v,.cells y_2_c 25 (0,0)) :: J101)
   refine DL.new (ob:=.cells (#[.int .i64 0,.int .i64 0,(.slice none 0 0)]) 25) (mk:=fun b => ptr b 0) (i:=5) rfl (Wn.none rfl) rfl rfl rfl (f_alloc ty_z25 rfl) ?_
   intro b102 hb102
   refine DL.put (H':=((some b102,.cells ((Tm.ce t98 t98_2)) 25 (0,0)) :: (Value.ownBlock y_2_v,.cells y_2_c 25 (0,0)) :: J101)) (i:=6) rfl (Wn.none rfl) rfl rfl (f_storeA (j:=0) ty_s25 rfl rfl rfl (one_cons trivial (one_cons trivial (one_cons (sl_one (RowS.sl hr_t98_2)) one_nil))) rfl rfl rfl) (keep_none rfl) ?_
   refine DL.nil ?_
   refine TT.settle (A:=[(some b102,.cells ((Tm.ce t98 t98_2)) 25 (0,0)),(Value.ownBlock y_2_v,.cells y_2_c 25 (0,0))]) (J:=J101) hE101 ?_
   intro I103 hE103 hxI103
   refine TT.seq (x:=sub [1,1,0,1,0,0,1,0,0,1,0] B25) (y:=sub [1,1,0,1,0,0,1,0,0,1,1] B25) ?_
   refine TT.rg [0,1,2,3] [kq,kp,kq,kp] rfl rfl ?_
   refine DL.qu 21 (.agg (Tm.ce t98 t98_2)) rfl (f_loadA (j:=0) ty_a25 ty_s25 rfl rfl rfl rfl) ?_
   refine DL.mv 22 (y_2_v) rfl rfl rfl ?_
   obtain ⟨t104,h105,h106⟩:=bind_some h100
   refine DL.qu 23 (.bool t104) rfl (f_callR rfl rfl (args_val (vs:=[.agg (Tm.ce t98 t98_2),y_2_v]) rfl) (fun w => enter44 _ w) (fun w hc => ref29_in.val h105 (M:=heapOf w) w (Ext.refl _) (RowS.mono hr_t98_2 (hE103.ext hc)) (OwnS.row (OwnS.mono ho_y_2 hx101) (hE103.ext hc) hc (i:=1) rfl))) ?_
   refine DL.pu 24 (.bool (!t104)) rfl (p_not rfl rfl) ?_
   refine DL.nil ?_
   obtain ⟨j_o1_108,h109,h110⟩:=bind_some h106
   have J111 : ∀ (j_o1_108_v : Value),∀ (j_o1_108_c : Array Value),OwnS ShTm M101 j_o1_108_v j_o1_108_c j_o1_108 → TT Tryd.prog 25 R 94 w0 I103 (.inBlock 1 :: .code (sub [1,1,0,1,0,0,1,1] B25) :: .inLoop (sub [1,1,0,1,0,0] B25) :: .inBlock 0 :: K) [(0,a0_v),(3,j_o1_108_v),(4,.int .i64 x4_3)] [(some b102,.cells ((Tm.ce t98 t98_2)) 25 (0,0)),(Value.ownBlock j_o1_108_v,.cells j_o1_108_c 25 (0,0))]:=by
    intro j_o1_108_v j_o1_108_c ho_j_o1_108
    refine TT.inBlock ?_
    refine TT.rg [0,1,2] [kp,kp,kp] rfl rfl ?_
    refine DL.mv 14 (.int .i64 x4_3) rfl rfl rfl ?_
    refine DL.pu 15 (.int .i64 (IntKind.i64.wrap (x4_3 + 1))) rfl (p_add rfl rfl rfl) ?_
    refine DL.pu 4 (.int .i64 (IntKind.i64.wrap (x4_3 + 1))) rfl (p_assign rfl rfl) ?_
    refine DL.nil ?_
    refine TT.inLoop ?_
    exact TT.pick [1] (by decide) (TT.weak (ih M101 I103 hE103 (hx.trans hx101) j_o1_108 (IntKind.i64.wrap (x4_3 + 1)) j_o1_108_v j_o1_108_c r0_ ho_j_o1_108 h110 hk) (Sub.cons rfl (Sub.cons rfl (Sub.cons rfl (Sub.nil _)))))
   by_cases c107 : (!t104) = true
   ·
    have h113:=ite_true c107 h109
    refine TT.cond_true (x:=sub [1,1,0,1,0,0,1,0,0,1,1,0] B25) (y:=sub [1,1,0,1,0,0,1,0,0,1,1,1] B25) rfl c107 ?_
    refine TT.rg [0,1,2,3,4] [kp,kq,(.alloc,none),kx,kp] rfl rfl ?_
    refine DL.mv 25 (y_2_v) rfl rfl rfl ?_
    refine DL.qu 26 (.agg (Tm.ce t98 t98_2)) rfl (f_loadA (j:=0) ty_a25 ty_s25 rfl rfl rfl rfl) ?_
    refine DL.newS (M:=M101) (s:=ShTm) (zs:=[t98]) (cells:=[.int .i64 (Tm.kind t98),.int .i64 (Tm.num t98),t98_2]) (n:=1) rfl (by decide) rfl (fun i x hx => by match i,hx with | 0,hx => cases hx; exact (Tm.cl (t:=t98) hr_t98_2) | k + 1,hx => simp at hx) (i:=2) rfl (Wn.none rfl) rfl rfl rfl (f_buildS (n:=1) (vs:=[(0,.agg (Tm.ce t98 t98_2))]) elem22 rfl rfl (by kernel_rfl) rfl (args_val2 rfl)) ?_
    intro s115_v s115_c ho_s115
    obtain ⟨g116,h117⟩:=req_some h113
    refine DL.appendS (M:=M101) (s:=ShTm) (fun s118_v s118_c => [(Value.ownBlock s115_v,.cells s115_c 25 (0,0)),(some b102,.cells ((Tm.ce t98 t98_2)) 25 (0,0)),(Value.ownBlock s118_v,.cells s118_c 25 (0,0))]) elem22 (j:=2) rfl (OwnS.mono ho_y_2 hx101) g116 (by decide) (OwnS.src (i:=0) ho_s115 rfl) (i:=3) rfl (Wn.none rfl) rfl rfl rfl rfl rfl rfl (fun _ _ => rfl) ?_
    intro s118_v s118_c ho_s118
    show DL _ _ _ _ _ _ _ _ _ _ _ _ [(Value.ownBlock s115_v,.cells s115_c 25 (0,0)),(some b102,.cells ((Tm.ce t98 t98_2)) 25 (0,0)),(Value.ownBlock s118_v,.cells s118_c 25 (0,0))]
    refine DL.pu 3 (s118_v) rfl (p_assign rfl rfl) ?_
    refine DL.nil ?_
    obtain rfl:=Option.some.inj h117
    exact TT.pick [1,2] (by decide) (TT.weak (J111 s118_v s118_c ho_s118) (Sub.cons rfl (Sub.cons rfl (Sub.cons rfl (Sub.nil _)))))
   ·
    replace c107:=Bool.eq_false_iff.mpr c107
    have h119:=ite_false c107 h109
    refine TT.cond_false (x:=sub [1,1,0,1,0,0,1,0,0,1,1,0] B25) (y:=sub [1,1,0,1,0,0,1,0,0,1,1,1] B25) rfl c107 ?_
    refine TT.skip ?_
    obtain rfl:=Option.some.inj h119
    exact TT.weak (J111 y_2_v y_2_c (OwnS.mono ho_y_2 hx101)) (Sub.cons rfl (Sub.cons rfl (Sub.cons rfl (Sub.nil _))))
  ·
   replace c88:=Bool.eq_false_iff.mpr c88
   have h120:=ite_false c88 h
   refine TT.cond_false (x:=sub [1,1,0,1,0,0,0,1,0] B25) (y:=sub [1,1,0,1,0,0,0,1,1] B25) rfl c88 ?_
   refine TT.exit rfl ?_
   obtain rfl:=Option.some.inj h120
   exact TT.weak (hk M I hE hx y_2_v y_2_c ho_y_2) (Sub.cons rfl (Sub.nil _))

def ref29_Learn.L3 (t2366 : Tm) : Nat → (List Tm) → Bool → Int → Option (List Tm × Bool)
 | 0,_,_,_ => none
 | k + 1,y_2369,x6_2370,x9_2371 => nm (decide (x9_2371 < ((Tree.kids t2366).length : Int))) fun t2459 => if t2459 = true then (req (0 ≤ x9_2371) (req (x9_2371 < ((Tree.kids t2366).length : Int)) (nm ((Tree.kids t2366).getD x9_2371.toNat Tm.dflt) fun t2469 => (ref29_in.f t2469 y_2369).bind fun t2472 => (if (!t2472) = true then (nm ((Tree.kids t2366).getD x9_2371.toNat Tm.dflt) fun t2484 => req (y_2369.length + [t2484].length ≤ 1099511627776) (some ((y_2369 ++ [t2484]),true))) else (some (y_2369,x6_2370))).bind fun (j_o1_2476,j6_2477) => ref29_Learn.L3 t2366 k j_o1_2476 j6_2477 (IntKind.i64.wrap (x9_2371 + 1))))) else (some (y_2369,x6_2370))
set_option maxRecDepth 20000 in
theorem ref29_Learn.L3_ok (x7_1612 : Int) (t2366 : Tm) (t2366_2 : Value) {R : Ending → World → Prop} {w0 : World} {M0 M I : Mem} {K : List Item} (hE : Env w0 M0 M I) (hr_t2366_2 : RowS ShTm M t2366_2 (Tree.kids t2366)) :
  ∀ (k : Nat) (y_2369 : List Tm) (x6_2370 : Bool) (x9_2371 : Int) (y_2369_v : Value) (y_2369_c : Array Value) (r0_ : List Tm) (r1_ : Bool) (ho_y_2369 : OwnS ShTm M y_2369_v y_2369_c y_2369) (h : ref29_Learn.L3 t2366 k y_2369 x6_2370 x9_2371 = some (r0_,r1_)) (hk : ∀ (z_o1_2457_v : Value),∀ (z_o1_2457_c : Array Value),OwnS ShTm M z_o1_2457_v z_o1_2457_c r0_ → TT Tryd.prog 25 R 94 w0 I K [(3,z_o1_2457_v),(6,.bool r1_),(7,.int .i64 x7_1612)] [(Value.ownBlock z_o1_2457_v,.cells z_o1_2457_c 25 (0,0))]),
   TT Tryd.prog 25 R 94 w0 I (.code (sub [1,1,1,0,1,0,0,1,0,1,1,0,0,1,0,0,1,1,1,0,0] B25) :: .inLoop (sub [1,1,1,0,1,0,0,1,0,1,1,0,0,1,0,0,1,1,1,0,0] B25) :: .inBlock 7 :: K) [(3,y_2369_v),(6,.bool x6_2370),(7,.int .i64 x7_1612),(8,t2366_2),(9,.int .i64 x9_2371)] [(Value.ownBlock y_2369_v,.cells y_2369_c 25 (0,0))]:=by
 intro k
 induction k with
 | zero => intro y_2369 x6_2370 x9_2371 y_2369_v y_2369_c r0_ r1_ ho_y_2369 h; simp [ref29_Learn.L3] at h
 | succ k ih =>
  intro y_2369 x6_2370 x9_2371 y_2369_v y_2369_c r0_ r1_ ho_y_2369 h hk
  unfold ref29_Learn.L3 at h
  refine TT.seq (x:=sub [1,1,1,0,1,0,0,1,0,1,1,0,0,1,0,0,1,1,1,0,0,0] B25) (y:=sub [1,1,1,0,1,0,0,1,0,1,1,0,0,1,0,0,1,1,1,0,0,1] B25) ?_
  refine TT.seq (x:=sub [1,1,1,0,1,0,0,1,0,1,1,0,0,1,0,0,1,1,1,0,0,0,0] B25) (y:=sub [1,1,1,0,1,0,0,1,0,1,1,0,0,1,0,0,1,1,1,0,0,0,1] B25) ?_
  refine TT.rg [0,1,2,3] [kp,kp,kp,kp] rfl rfl ?_
  refine DL.mv 73 (.int .i64 x9_2371) rfl rfl rfl ?_
  refine DL.mv 74 (t2366_2) rfl rfl rfl ?_
  refine DL.pu 75 (.int .i64 ((Tree.kids t2366).length : Int)) rfl (p_slLen ty_u22 (RowS.sl hr_t2366_2) rfl rfl) ?_
  obtain ⟨t2459,e2460,h2461⟩:=nm_some h
  refine DL.pu 76 (.bool t2459) rfl (by rw [e2460]; exact p_lss rfl rfl rfl) ?_
  refine DL.nil ?_
  by_cases c2462 : t2459 = true
  ·
   have h2463:=ite_true c2462 h2461
   refine TT.cond_true (x:=sub [1,1,1,0,1,0,0,1,0,1,1,0,0,1,0,0,1,1,1,0,0,0,1,0] B25) (y:=sub [1,1,1,0,1,0,0,1,0,1,1,0,0,1,0,0,1,1,1,0,0,0,1,1] B25) rfl c2462 ?_
   refine TT.skip ?_
   refine TT.seq (x:=sub [1,1,1,0,1,0,0,1,0,1,1,0,0,1,0,0,1,1,1,0,0,1,0] B25) (y:=sub [1,1,1,0,1,0,0,1,0,1,1,0,0,1,0,0,1,1,1,0,0,1,1] B25) ?_
   refine TT.block (c:=sub [1,1,1,0,1,0,0,1,0,1,1,0,0,1,0,0,1,1,1,0,0,1,0,0] B25) ?_
   refine TT.seq (x:=sub [1,1,1,0,1,0,0,1,0,1,1,0,0,1,0,0,1,1,1,0,0,1,0,0,0] B25) (y:=sub [1,1,1,0,1,0,0,1,0,1,1,0,0,1,0,0,1,1,1,0,0,1,0,0,1] B25) ?_
   refine TT.rg [0,1,2,3,4,5,6] [kp,kp,kp,kp,kp,kq,kp] rfl rfl ?_
   refine DL.mv 79 (t2366_2) rfl rfl rfl ?_
   refine DL.mv 80 (.int .i64 x9_2371) rfl rfl rfl ?_
   obtain ⟨g2464,h2465⟩:=req_some h2463
   obtain ⟨g2466,h2467⟩:=req_some h2465
   refine DL.pu 81 (elp t2366_2 (x9_2371.toNat * 3)) rfl (p_slIx ty_u22 ty_s25 (RowS.some hr_t2366_2 g2464 g2466) g2464 g2466 rfl rfl rfl) ?_
   obtain ⟨t2469,e2470,h2471⟩:=nm_some h2467
   obtain ⟨cs2468,hc2468,hl2468⟩:=id (hr_t2366_2)
   have q2468:=hl2468 _ _ (getD_some Tm.dflt (lt_len g2464 g2466)); rw [← e2470] at q2468
   obtain ⟨t2469_2,hq2468,hr_t2469_2⟩:=Tm.op q2468
   refine DL.imm (v:=.agg (Tm.ce t2469 t2469_2)) rfl (Wn.none rfl) rfl rfl rfl (i_loadElA (RowV.mono hc2468 hE.mi) hq2468 (lt_len g2464 g2466) ty_a25 ty_s25 rfl rfl) ?_
   refine DL.mv 83 (y_2369_v) rfl rfl rfl ?_
   obtain ⟨t2472,h2473,h2474⟩:=bind_some h2471
   refine DL.qu 84 (.bool t2472) rfl (f_callR rfl rfl (args_val (vs:=[.agg (Tm.ce t2469 t2469_2),y_2369_v]) rfl) (fun w => enter44 _ w) (fun w hc => ref29_in.val h2473 (M:=heapOf w) w (Ext.refl _) (RowS.mono hr_t2469_2 (hE.ext hc)) (OwnS.row ho_y_2369 (hE.ext hc) hc (i:=0) rfl))) ?_
   refine DL.pu 85 (.bool (!t2472)) rfl (p_not rfl rfl) ?_
   refine DL.nil ?_
   obtain ⟨⟨j_o1_2476,j6_2477⟩,h2478,h2479⟩:=bind_some h2474
   have J2480 : ∀ (j_o1_2476_v : Value),∀ (j_o1_2476_c : Array Value),OwnS ShTm M j_o1_2476_v j_o1_2476_c j_o1_2476 → TT Tryd.prog 25 R 94 w0 I (.inBlock 8 :: .code (sub [1,1,1,0,1,0,0,1,0,1,1,0,0,1,0,0,1,1,1,0,0,1,1] B25) :: .inLoop (sub [1,1,1,0,1,0,0,1,0,1,1,0,0,1,0,0,1,1,1,0,0] B25) :: .inBlock 7 :: K) [(3,j_o1_2476_v),(6,.bool j6_2477),(7,.int .i64 x7_1612),(8,t2366_2),(9,.int .i64 x9_2371)] [(Value.ownBlock j_o1_2476_v,.cells j_o1_2476_c 25 (0,0))]:=by
    intro j_o1_2476_v j_o1_2476_c ho_j_o1_2476
    refine TT.inBlock ?_
    refine TT.rg [0,1,2] [kp,kp,kp] rfl rfl ?_
    refine DL.mv 77 (.int .i64 x9_2371) rfl rfl rfl ?_
    refine DL.pu 78 (.int .i64 (IntKind.i64.wrap (x9_2371 + 1))) rfl (p_add rfl rfl rfl) ?_
    refine DL.pu 9 (.int .i64 (IntKind.i64.wrap (x9_2371 + 1))) rfl (p_assign rfl rfl) ?_
    refine DL.nil ?_
    refine TT.inLoop ?_
    exact TT.weak (ih j_o1_2476 j6_2477 (IntKind.i64.wrap (x9_2371 + 1)) j_o1_2476_v j_o1_2476_c r0_ r1_ ho_j_o1_2476 h2479 hk) (Sub.cons rfl (Sub.cons rfl (Sub.cons rfl (Sub.cons rfl (Sub.cons rfl (Sub.nil _))))))
   by_cases c2475 : (!t2472) = true
   ·
    have h2482:=ite_true c2475 h2478
    refine TT.cond_true (x:=sub [1,1,1,0,1,0,0,1,0,1,1,0,0,1,0,0,1,1,1,0,0,1,0,0,1,0] B25) (y:=sub [1,1,1,0,1,0,0,1,0,1,1,0,0,1,0,0,1,1,1,0,0,1,0,0,1,1] B25) rfl c2475 ?_
    refine TT.seq (x:=sub [1,1,1,0,1,0,0,1,0,1,1,0,0,1,0,0,1,1,1,0,0,1,0,0,1,0,0] B25) (y:=sub [1,1,1,0,1,0,0,1,0,1,1,0,0,1,0,0,1,1,1,0,0,1,0,0,1,0,1] B25) ?_
    refine TT.rg [0,1,2,3,4,5,6,7] [kp,kp,kp,kp,kp,(.alloc,none),kx,kp] rfl rfl ?_
    refine DL.mv 86 (y_2369_v) rfl rfl rfl ?_
    refine DL.mv 87 (t2366_2) rfl rfl rfl ?_
    refine DL.mv 88 (.int .i64 x9_2371) rfl rfl rfl ?_
    refine DL.pu 89 (elp t2366_2 (x9_2371.toNat * 3)) rfl (p_slIx ty_u22 ty_s25 (RowS.some hr_t2366_2 g2464 g2466) g2464 g2466 rfl rfl rfl) ?_
    obtain ⟨t2484,e2485,h2486⟩:=nm_some h2482
    obtain ⟨cs2483,hc2483,hl2483⟩:=id (hr_t2366_2)
    have q2483:=hl2483 _ _ (getD_some Tm.dflt (lt_len g2464 g2466)); rw [← e2485] at q2483
    obtain ⟨t2484_2,hq2483,hr_t2484_2⟩:=Tm.op q2483
    refine DL.imm (v:=.agg (Tm.ce t2484 t2484_2)) rfl (Wn.none rfl) rfl rfl rfl (i_loadElA (RowV.mono hc2483 hE.mi) hq2483 (lt_len g2464 g2466) ty_a25 ty_s25 rfl rfl) ?_
    refine DL.newS (M:=M) (s:=ShTm) (zs:=[t2484]) (cells:=[.int .i64 (Tm.kind t2484),.int .i64 (Tm.num t2484),t2484_2]) (n:=1) rfl (by decide) rfl (fun i x hx => by match i,hx with | 0,hx => cases hx; exact (Tm.cl (t:=t2484) hr_t2484_2) | k + 1,hx => simp at hx) (i:=5) rfl (Wn.none rfl) rfl rfl rfl (f_buildS (n:=1) (vs:=[(0,.agg (Tm.ce t2484 t2484_2))]) elem22 rfl rfl (by kernel_rfl) rfl (args_val2 rfl)) ?_
    intro s2488_v s2488_c ho_s2488
    obtain ⟨g2489,h2490⟩:=req_some h2486
    refine DL.appendS (M:=M) (s:=ShTm) (fun s2491_v s2491_c => [(Value.ownBlock s2488_v,.cells s2488_c 25 (0,0)),(Value.ownBlock s2491_v,.cells s2491_c 25 (0,0))]) elem22 (j:=1) rfl ho_y_2369 g2489 (by decide) (OwnS.src (i:=0) ho_s2488 rfl) (i:=6) rfl (Wn.none rfl) rfl rfl rfl rfl rfl rfl (fun _ _ => rfl) ?_
    intro s2491_v s2491_c ho_s2491
    show DL _ _ _ _ _ _ _ _ _ _ _ _ [(Value.ownBlock s2488_v,.cells s2488_c 25 (0,0)),(Value.ownBlock s2491_v,.cells s2491_c 25 (0,0))]
    refine DL.pu 3 (s2491_v) rfl (p_assign rfl rfl) ?_
    refine DL.nil ?_
    refine TT.rg [0] [kp] rfl rfl ?_
    refine DL.pu 6 (.bool true) rfl (p_assign rfl rfl) ?_
    refine DL.nil ?_
    simp only [Option.some.injEq,Prod.mk.injEq] at h2490
    obtain ⟨rfl,rfl⟩:=h2490
    exact TT.pick [1] (by decide) (TT.weak (J2480 s2491_v s2491_c ho_s2491) (Sub.cons rfl (Sub.cons rfl (Sub.cons rfl (Sub.cons rfl (Sub.cons rfl (Sub.nil _)))))))
   ·
    replace c2475:=Bool.eq_false_iff.mpr c2475
    have h2492:=ite_false c2475 h2478
    refine TT.cond_false (x:=sub [1,1,1,0,1,0,0,1,0,1,1,0,0,1,0,0,1,1,1,0,0,1,0,0,1,0] B25) (y:=sub [1,1,1,0,1,0,0,1,0,1,1,0,0,1,0,0,1,1,1,0,0,1,0,0,1,1] B25) rfl c2475 ?_
    refine TT.skip ?_
    simp only [Option.some.injEq,Prod.mk.injEq] at h2492
    obtain ⟨rfl,rfl⟩:=h2492
    exact TT.weak (J2480 y_2369_v y_2369_c ho_y_2369) (Sub.cons rfl (Sub.cons rfl (Sub.cons rfl (Sub.cons rfl (Sub.cons rfl (Sub.nil _))))))
  ·
   replace c2462:=Bool.eq_false_iff.mpr c2462
   have h2493:=ite_false c2462 h2461
   refine TT.cond_false (x:=sub [1,1,1,0,1,0,0,1,0,1,1,0,0,1,0,0,1,1,1,0,0,0,1,0] B25) (y:=sub [1,1,1,0,1,0,0,1,0,1,1,0,0,1,0,0,1,1,1,0,0,0,1,1] B25) rfl c2462 ?_
   refine TT.exit rfl ?_
   simp only [Option.some.injEq,Prod.mk.injEq] at h2493
   obtain ⟨rfl,rfl⟩:=h2493
   exact TT.weak (hk y_2369_v y_2369_c ho_y_2369) (Sub.cons rfl (Sub.cons rfl (Sub.cons rfl (Sub.nil _))))

def ref29_Learn.L4 (t2501 : Tm) : Nat → (List Tm) → Bool → Int → Option (List Tm × Bool)
 | 0,_,_,_ => none
 | k + 1,y_2507,x6_2508,x9_2509 => nm (decide (x9_2509 < (((Tree.kids t2501).drop (1 : Int).toNat).length : Int))) fun t2597 => if t2597 = true then (req (0 ≤ x9_2509) (req (x9_2509 < (((Tree.kids t2501).drop (1 : Int).toNat).length : Int)) (nm (((Tree.kids t2501).drop (1 : Int).toNat).getD x9_2509.toNat Tm.dflt) fun t2607 => (ref29_in.f t2607 y_2507).bind fun t2610 => (if (!t2610) = true then (nm (((Tree.kids t2501).drop (1 : Int).toNat).getD x9_2509.toNat Tm.dflt) fun t2622 => req (y_2507.length + [t2622].length ≤ 1099511627776) (some ((y_2507 ++ [t2622]),true))) else (some (y_2507,x6_2508))).bind fun (j_o1_2614,j6_2615) => ref29_Learn.L4 t2501 k j_o1_2614 j6_2615 (IntKind.i64.wrap (x9_2509 + 1))))) else (some (y_2507,x6_2508))
set_option maxRecDepth 20000 in
theorem ref29_Learn.L4_ok (x7_1612 : Int) (t2501 : Tm) (v2504 : Value) {R : Ending → World → Prop} {w0 : World} {M0 M I : Mem} {K : List Item} (hE : Env w0 M0 M I) (hr_v2504 : RowS ShTm M v2504 ((Tree.kids t2501).drop (1 : Int).toNat)) :
  ∀ (k : Nat) (y_2507 : List Tm) (x6_2508 : Bool) (x9_2509 : Int) (y_2507_v : Value) (y_2507_c : Array Value) (r0_ : List Tm) (r1_ : Bool) (ho_y_2507 : OwnS ShTm M y_2507_v y_2507_c y_2507) (h : ref29_Learn.L4 t2501 k y_2507 x6_2508 x9_2509 = some (r0_,r1_)) (hk : ∀ (z_o1_2595_v : Value),∀ (z_o1_2595_c : Array Value),OwnS ShTm M z_o1_2595_v z_o1_2595_c r0_ → TT Tryd.prog 25 R 94 w0 I K [(3,z_o1_2595_v),(6,.bool r1_),(7,.int .i64 x7_1612)] [(Value.ownBlock z_o1_2595_v,.cells z_o1_2595_c 25 (0,0))]),
   TT Tryd.prog 25 R 94 w0 I (.code (sub [1,1,1,0,1,0,0,1,0,1,1,0,0,1,0,0,1,1,1,0,0] B25) :: .inLoop (sub [1,1,1,0,1,0,0,1,0,1,1,0,0,1,0,0,1,1,1,0,0] B25) :: .inBlock 7 :: K) [(3,y_2507_v),(6,.bool x6_2508),(7,.int .i64 x7_1612),(8,v2504),(9,.int .i64 x9_2509)] [(Value.ownBlock y_2507_v,.cells y_2507_c 25 (0,0))]:=by
 intro k
 induction k with
 | zero => intro y_2507 x6_2508 x9_2509 y_2507_v y_2507_c r0_ r1_ ho_y_2507 h; simp [ref29_Learn.L4] at h
 | succ k ih =>
  intro y_2507 x6_2508 x9_2509 y_2507_v y_2507_c r0_ r1_ ho_y_2507 h hk
  unfold ref29_Learn.L4 at h
  refine TT.seq (x:=sub [1,1,1,0,1,0,0,1,0,1,1,0,0,1,0,0,1,1,1,0,0,0] B25) (y:=sub [1,1,1,0,1,0,0,1,0,1,1,0,0,1,0,0,1,1,1,0,0,1] B25) ?_
  refine TT.seq (x:=sub [1,1,1,0,1,0,0,1,0,1,1,0,0,1,0,0,1,1,1,0,0,0,0] B25) (y:=sub [1,1,1,0,1,0,0,1,0,1,1,0,0,1,0,0,1,1,1,0,0,0,1] B25) ?_
  refine TT.rg [0,1,2,3] [kp,kp,kp,kp] rfl rfl ?_
  refine DL.mv 73 (.int .i64 x9_2509) rfl rfl rfl ?_
  refine DL.mv 74 (v2504) rfl rfl rfl ?_
  refine DL.pu 75 (.int .i64 (((Tree.kids t2501).drop (1 : Int).toNat).length : Int)) rfl (p_slLen ty_u22 (RowS.sl hr_v2504) rfl rfl) ?_
  obtain ⟨t2597,e2598,h2599⟩:=nm_some h
  refine DL.pu 76 (.bool t2597) rfl (by rw [e2598]; exact p_lss rfl rfl rfl) ?_
  refine DL.nil ?_
  by_cases c2600 : t2597 = true
  ·
   have h2601:=ite_true c2600 h2599
   refine TT.cond_true (x:=sub [1,1,1,0,1,0,0,1,0,1,1,0,0,1,0,0,1,1,1,0,0,0,1,0] B25) (y:=sub [1,1,1,0,1,0,0,1,0,1,1,0,0,1,0,0,1,1,1,0,0,0,1,1] B25) rfl c2600 ?_
   refine TT.skip ?_
   refine TT.seq (x:=sub [1,1,1,0,1,0,0,1,0,1,1,0,0,1,0,0,1,1,1,0,0,1,0] B25) (y:=sub [1,1,1,0,1,0,0,1,0,1,1,0,0,1,0,0,1,1,1,0,0,1,1] B25) ?_
   refine TT.block (c:=sub [1,1,1,0,1,0,0,1,0,1,1,0,0,1,0,0,1,1,1,0,0,1,0,0] B25) ?_
   refine TT.seq (x:=sub [1,1,1,0,1,0,0,1,0,1,1,0,0,1,0,0,1,1,1,0,0,1,0,0,0] B25) (y:=sub [1,1,1,0,1,0,0,1,0,1,1,0,0,1,0,0,1,1,1,0,0,1,0,0,1] B25) ?_
   refine TT.rg [0,1,2,3,4,5,6] [kp,kp,kp,kp,kp,kq,kp] rfl rfl ?_
   refine DL.mv 79 (v2504) rfl rfl rfl ?_
   refine DL.mv 80 (.int .i64 x9_2509) rfl rfl rfl ?_
   obtain ⟨g2602,h2603⟩:=req_some h2601
   obtain ⟨g2604,h2605⟩:=req_some h2603
   refine DL.pu 81 (elp v2504 (x9_2509.toNat * 3)) rfl (p_slIx ty_u22 ty_s25 (RowS.some hr_v2504 g2602 g2604) g2602 g2604 rfl rfl rfl) ?_
   obtain ⟨t2607,e2608,h2609⟩:=nm_some h2605
   obtain ⟨cs2606,hc2606,hl2606⟩:=id (hr_v2504)
   have q2606:=hl2606 _ _ (getD_some Tm.dflt (lt_len g2602 g2604)); rw [← e2608] at q2606
   obtain ⟨t2607_2,hq2606,hr_t2607_2⟩:=Tm.op q2606
   refine DL.imm (v:=.agg (Tm.ce t2607 t2607_2)) rfl (Wn.none rfl) rfl rfl rfl (i_loadElA (RowV.mono hc2606 hE.mi) hq2606 (lt_len g2602 g2604) ty_a25 ty_s25 rfl rfl) ?_
   refine DL.mv 83 (y_2507_v) rfl rfl rfl ?_
   obtain ⟨t2610,h2611,h2612⟩:=bind_some h2609
   refine DL.qu 84 (.bool t2610) rfl (f_callR rfl rfl (args_val (vs:=[.agg (Tm.ce t2607 t2607_2),y_2507_v]) rfl) (fun w => enter44 _ w) (fun w hc => ref29_in.val h2611 (M:=heapOf w) w (Ext.refl _) (RowS.mono hr_t2607_2 (hE.ext hc)) (OwnS.row ho_y_2507 (hE.ext hc) hc (i:=0) rfl))) ?_
   refine DL.pu 85 (.bool (!t2610)) rfl (p_not rfl rfl) ?_
   refine DL.nil ?_
   obtain ⟨⟨j_o1_2614,j6_2615⟩,h2616,h2617⟩:=bind_some h2612
   have J2618 : ∀ (j_o1_2614_v : Value),∀ (j_o1_2614_c : Array Value),OwnS ShTm M j_o1_2614_v j_o1_2614_c j_o1_2614 → TT Tryd.prog 25 R 94 w0 I (.inBlock 8 :: .code (sub [1,1,1,0,1,0,0,1,0,1,1,0,0,1,0,0,1,1,1,0,0,1,1] B25) :: .inLoop (sub [1,1,1,0,1,0,0,1,0,1,1,0,0,1,0,0,1,1,1,0,0] B25) :: .inBlock 7 :: K) [(3,j_o1_2614_v),(6,.bool j6_2615),(7,.int .i64 x7_1612),(8,v2504),(9,.int .i64 x9_2509)] [(Value.ownBlock j_o1_2614_v,.cells j_o1_2614_c 25 (0,0))]:=by
    intro j_o1_2614_v j_o1_2614_c ho_j_o1_2614
    refine TT.inBlock ?_
    refine TT.rg [0,1,2] [kp,kp,kp] rfl rfl ?_
    refine DL.mv 77 (.int .i64 x9_2509) rfl rfl rfl ?_
    refine DL.pu 78 (.int .i64 (IntKind.i64.wrap (x9_2509 + 1))) rfl (p_add rfl rfl rfl) ?_
    refine DL.pu 9 (.int .i64 (IntKind.i64.wrap (x9_2509 + 1))) rfl (p_assign rfl rfl) ?_
    refine DL.nil ?_
    refine TT.inLoop ?_
    exact TT.weak (ih j_o1_2614 j6_2615 (IntKind.i64.wrap (x9_2509 + 1)) j_o1_2614_v j_o1_2614_c r0_ r1_ ho_j_o1_2614 h2617 hk) (Sub.cons rfl (Sub.cons rfl (Sub.cons rfl (Sub.cons rfl (Sub.cons rfl (Sub.nil _))))))
   by_cases c2613 : (!t2610) = true
   ·
    have h2620:=ite_true c2613 h2616
    refine TT.cond_true (x:=sub [1,1,1,0,1,0,0,1,0,1,1,0,0,1,0,0,1,1,1,0,0,1,0,0,1,0] B25) (y:=sub [1,1,1,0,1,0,0,1,0,1,1,0,0,1,0,0,1,1,1,0,0,1,0,0,1,1] B25) rfl c2613 ?_
    refine TT.seq (x:=sub [1,1,1,0,1,0,0,1,0,1,1,0,0,1,0,0,1,1,1,0,0,1,0,0,1,0,0] B25) (y:=sub [1,1,1,0,1,0,0,1,0,1,1,0,0,1,0,0,1,1,1,0,0,1,0,0,1,0,1] B25) ?_
    refine TT.rg [0,1,2,3,4,5,6,7] [kp,kp,kp,kp,kp,(.alloc,none),kx,kp] rfl rfl ?_
    refine DL.mv 86 (y_2507_v) rfl rfl rfl ?_
    refine DL.mv 87 (v2504) rfl rfl rfl ?_
    refine DL.mv 88 (.int .i64 x9_2509) rfl rfl rfl ?_
    refine DL.pu 89 (elp v2504 (x9_2509.toNat * 3)) rfl (p_slIx ty_u22 ty_s25 (RowS.some hr_v2504 g2602 g2604) g2602 g2604 rfl rfl rfl) ?_
    obtain ⟨t2622,e2623,h2624⟩:=nm_some h2620
    obtain ⟨cs2621,hc2621,hl2621⟩:=id (hr_v2504)
    have q2621:=hl2621 _ _ (getD_some Tm.dflt (lt_len g2602 g2604)); rw [← e2623] at q2621
    obtain ⟨t2622_2,hq2621,hr_t2622_2⟩:=Tm.op q2621
    refine DL.imm (v:=.agg (Tm.ce t2622 t2622_2)) rfl (Wn.none rfl) rfl rfl rfl (i_loadElA (RowV.mono hc2621 hE.mi) hq2621 (lt_len g2602 g2604) ty_a25 ty_s25 rfl rfl) ?_
    refine DL.newS (M:=M) (s:=ShTm) (zs:=[t2622]) (cells:=[.int .i64 (Tm.kind t2622),.int .i64 (Tm.num t2622),t2622_2]) (n:=1) rfl (by decide) rfl (fun i x hx => by match i,hx with | 0,hx => cases hx; exact (Tm.cl (t:=t2622) hr_t2622_2) | k + 1,hx => simp at hx) (i:=5) rfl (Wn.none rfl) rfl rfl rfl (f_buildS (n:=1) (vs:=[(0,.agg (Tm.ce t2622 t2622_2))]) elem22 rfl rfl (by kernel_rfl) rfl (args_val2 rfl)) ?_
    intro s2626_v s2626_c ho_s2626
    obtain ⟨g2627,h2628⟩:=req_some h2624
    refine DL.appendS (M:=M) (s:=ShTm) (fun s2629_v s2629_c => [(Value.ownBlock s2626_v,.cells s2626_c 25 (0,0)),(Value.ownBlock s2629_v,.cells s2629_c 25 (0,0))]) elem22 (j:=1) rfl ho_y_2507 g2627 (by decide) (OwnS.src (i:=0) ho_s2626 rfl) (i:=6) rfl (Wn.none rfl) rfl rfl rfl rfl rfl rfl (fun _ _ => rfl) ?_
    intro s2629_v s2629_c ho_s2629
    show DL _ _ _ _ _ _ _ _ _ _ _ _ [(Value.ownBlock s2626_v,.cells s2626_c 25 (0,0)),(Value.ownBlock s2629_v,.cells s2629_c 25 (0,0))]
    refine DL.pu 3 (s2629_v) rfl (p_assign rfl rfl) ?_
    refine DL.nil ?_
    refine TT.rg [0] [kp] rfl rfl ?_
    refine DL.pu 6 (.bool true) rfl (p_assign rfl rfl) ?_
    refine DL.nil ?_
    simp only [Option.some.injEq,Prod.mk.injEq] at h2628
    obtain ⟨rfl,rfl⟩:=h2628
    exact TT.pick [1] (by decide) (TT.weak (J2618 s2629_v s2629_c ho_s2629) (Sub.cons rfl (Sub.cons rfl (Sub.cons rfl (Sub.cons rfl (Sub.cons rfl (Sub.nil _)))))))
   ·
    replace c2613:=Bool.eq_false_iff.mpr c2613
    have h2630:=ite_false c2613 h2616
    refine TT.cond_false (x:=sub [1,1,1,0,1,0,0,1,0,1,1,0,0,1,0,0,1,1,1,0,0,1,0,0,1,0] B25) (y:=sub [1,1,1,0,1,0,0,1,0,1,1,0,0,1,0,0,1,1,1,0,0,1,0,0,1,1] B25) rfl c2613 ?_
    refine TT.skip ?_
    simp only [Option.some.injEq,Prod.mk.injEq] at h2630
    obtain ⟨rfl,rfl⟩:=h2630
    exact TT.weak (J2618 y_2507_v y_2507_c ho_y_2507) (Sub.cons rfl (Sub.cons rfl (Sub.cons rfl (Sub.cons rfl (Sub.cons rfl (Sub.nil _))))))
  ·
   replace c2600:=Bool.eq_false_iff.mpr c2600
   have h2631:=ite_false c2600 h2599
   refine TT.cond_false (x:=sub [1,1,1,0,1,0,0,1,0,1,1,0,0,1,0,0,1,1,1,0,0,0,1,0] B25) (y:=sub [1,1,1,0,1,0,0,1,0,1,1,0,0,1,0,0,1,1,1,0,0,0,1,1] B25) rfl c2600 ?_
   refine TT.exit rfl ?_
   simp only [Option.some.injEq,Prod.mk.injEq] at h2631
   obtain ⟨rfl,rfl⟩:=h2631
   exact TT.weak (hk y_2507_v y_2507_c ho_y_2507) (Sub.cons rfl (Sub.cons rfl (Sub.cons rfl (Sub.nil _))))

def ref29_Learn.L5 (t2654 : Tm) : Nat → (List Tm) → Bool → Int → Option (List Tm × Bool)
 | 0,_,_,_ => none
 | k + 1,y_2660,x6_2661,x9_2662 => nm (decide (x9_2662 < (((Tree.kids t2654).drop (1 : Int).toNat).length : Int))) fun t2750 => if t2750 = true then (req (0 ≤ x9_2662) (req (x9_2662 < (((Tree.kids t2654).drop (1 : Int).toNat).length : Int)) (nm (((Tree.kids t2654).drop (1 : Int).toNat).getD x9_2662.toNat Tm.dflt) fun t2760 => (ref29_in.f t2760 y_2660).bind fun t2763 => (if (!t2763) = true then (nm (((Tree.kids t2654).drop (1 : Int).toNat).getD x9_2662.toNat Tm.dflt) fun t2775 => req (y_2660.length + [t2775].length ≤ 1099511627776) (some ((y_2660 ++ [t2775]),true))) else (some (y_2660,x6_2661))).bind fun (j_o1_2767,j6_2768) => ref29_Learn.L5 t2654 k j_o1_2767 j6_2768 (IntKind.i64.wrap (x9_2662 + 1))))) else (some (y_2660,x6_2661))
set_option maxRecDepth 20000 in
theorem ref29_Learn.L5_ok (x7_1612 : Int) (t2654 : Tm) (v2657 : Value) {R : Ending → World → Prop} {w0 : World} {M0 M I : Mem} {K : List Item} (hE : Env w0 M0 M I) (hr_v2657 : RowS ShTm M v2657 ((Tree.kids t2654).drop (1 : Int).toNat)) :
  ∀ (k : Nat) (y_2660 : List Tm) (x6_2661 : Bool) (x9_2662 : Int) (y_2660_v : Value) (y_2660_c : Array Value) (r0_ : List Tm) (r1_ : Bool) (ho_y_2660 : OwnS ShTm M y_2660_v y_2660_c y_2660) (h : ref29_Learn.L5 t2654 k y_2660 x6_2661 x9_2662 = some (r0_,r1_)) (hk : ∀ (z_o1_2748_v : Value),∀ (z_o1_2748_c : Array Value),OwnS ShTm M z_o1_2748_v z_o1_2748_c r0_ → TT Tryd.prog 25 R 94 w0 I K [(3,z_o1_2748_v),(6,.bool r1_),(7,.int .i64 x7_1612)] [(Value.ownBlock z_o1_2748_v,.cells z_o1_2748_c 25 (0,0))]),
   TT Tryd.prog 25 R 94 w0 I (.code (sub [1,1,1,0,1,0,0,1,0,1,1,0,0,1,0,0,1,1,1,0,0] B25) :: .inLoop (sub [1,1,1,0,1,0,0,1,0,1,1,0,0,1,0,0,1,1,1,0,0] B25) :: .inBlock 7 :: K) [(3,y_2660_v),(6,.bool x6_2661),(7,.int .i64 x7_1612),(8,v2657),(9,.int .i64 x9_2662)] [(Value.ownBlock y_2660_v,.cells y_2660_c 25 (0,0))]:=by
 intro k
 induction k with
 | zero => intro y_2660 x6_2661 x9_2662 y_2660_v y_2660_c r0_ r1_ ho_y_2660 h; simp [ref29_Learn.L5] at h
 | succ k ih =>
  intro y_2660 x6_2661 x9_2662 y_2660_v y_2660_c r0_ r1_ ho_y_2660 h hk
  unfold ref29_Learn.L5 at h
  refine TT.seq (x:=sub [1,1,1,0,1,0,0,1,0,1,1,0,0,1,0,0,1,1,1,0,0,0] B25) (y:=sub [1,1,1,0,1,0,0,1,0,1,1,0,0,1,0,0,1,1,1,0,0,1] B25) ?_
  refine TT.seq (x:=sub [1,1,1,0,1,0,0,1,0,1,1,0,0,1,0,0,1,1,1,0,0,0,0] B25) (y:=sub [1,1,1,0,1,0,0,1,0,1,1,0,0,1,0,0,1,1,1,0,0,0,1] B25) ?_
  refine TT.rg [0,1,2,3] [kp,kp,kp,kp] rfl rfl ?_
  refine DL.mv 73 (.int .i64 x9_2662) rfl rfl rfl ?_
  refine DL.mv 74 (v2657) rfl rfl rfl ?_
  refine DL.pu 75 (.int .i64 (((Tree.kids t2654).drop (1 : Int).toNat).length : Int)) rfl (p_slLen ty_u22 (RowS.sl hr_v2657) rfl rfl) ?_
  obtain ⟨t2750,e2751,h2752⟩:=nm_some h
  refine DL.pu 76 (.bool t2750) rfl (by rw [e2751]; exact p_lss rfl rfl rfl) ?_
  refine DL.nil ?_
  by_cases c2753 : t2750 = true
  ·
   have h2754:=ite_true c2753 h2752
   refine TT.cond_true (x:=sub [1,1,1,0,1,0,0,1,0,1,1,0,0,1,0,0,1,1,1,0,0,0,1,0] B25) (y:=sub [1,1,1,0,1,0,0,1,0,1,1,0,0,1,0,0,1,1,1,0,0,0,1,1] B25) rfl c2753 ?_
   refine TT.skip ?_
   refine TT.seq (x:=sub [1,1,1,0,1,0,0,1,0,1,1,0,0,1,0,0,1,1,1,0,0,1,0] B25) (y:=sub [1,1,1,0,1,0,0,1,0,1,1,0,0,1,0,0,1,1,1,0,0,1,1] B25) ?_
   refine TT.block (c:=sub [1,1,1,0,1,0,0,1,0,1,1,0,0,1,0,0,1,1,1,0,0,1,0,0] B25) ?_
   refine TT.seq (x:=sub [1,1,1,0,1,0,0,1,0,1,1,0,0,1,0,0,1,1,1,0,0,1,0,0,0] B25) (y:=sub [1,1,1,0,1,0,0,1,0,1,1,0,0,1,0,0,1,1,1,0,0,1,0,0,1] B25) ?_
   refine TT.rg [0,1,2,3,4,5,6] [kp,kp,kp,kp,kp,kq,kp] rfl rfl ?_
   refine DL.mv 79 (v2657) rfl rfl rfl ?_
   refine DL.mv 80 (.int .i64 x9_2662) rfl rfl rfl ?_
   obtain ⟨g2755,h2756⟩:=req_some h2754
   obtain ⟨g2757,h2758⟩:=req_some h2756
   refine DL.pu 81 (elp v2657 (x9_2662.toNat * 3)) rfl (p_slIx ty_u22 ty_s25 (RowS.some hr_v2657 g2755 g2757) g2755 g2757 rfl rfl rfl) ?_
   obtain ⟨t2760,e2761,h2762⟩:=nm_some h2758
   obtain ⟨cs2759,hc2759,hl2759⟩:=id (hr_v2657)
   have q2759:=hl2759 _ _ (getD_some Tm.dflt (lt_len g2755 g2757)); rw [← e2761] at q2759
   obtain ⟨t2760_2,hq2759,hr_t2760_2⟩:=Tm.op q2759
   refine DL.imm (v:=.agg (Tm.ce t2760 t2760_2)) rfl (Wn.none rfl) rfl rfl rfl (i_loadElA (RowV.mono hc2759 hE.mi) hq2759 (lt_len g2755 g2757) ty_a25 ty_s25 rfl rfl) ?_
   refine DL.mv 83 (y_2660_v) rfl rfl rfl ?_
   obtain ⟨t2763,h2764,h2765⟩:=bind_some h2762
   refine DL.qu 84 (.bool t2763) rfl (f_callR rfl rfl (args_val (vs:=[.agg (Tm.ce t2760 t2760_2),y_2660_v]) rfl) (fun w => enter44 _ w) (fun w hc => ref29_in.val h2764 (M:=heapOf w) w (Ext.refl _) (RowS.mono hr_t2760_2 (hE.ext hc)) (OwnS.row ho_y_2660 (hE.ext hc) hc (i:=0) rfl))) ?_
   refine DL.pu 85 (.bool (!t2763)) rfl (p_not rfl rfl) ?_
   refine DL.nil ?_
   obtain ⟨⟨j_o1_2767,j6_2768⟩,h2769,h2770⟩:=bind_some h2765
   have J2771 : ∀ (j_o1_2767_v : Value),∀ (j_o1_2767_c : Array Value),OwnS ShTm M j_o1_2767_v j_o1_2767_c j_o1_2767 → TT Tryd.prog 25 R 94 w0 I (.inBlock 8 :: .code (sub [1,1,1,0,1,0,0,1,0,1,1,0,0,1,0,0,1,1,1,0,0,1,1] B25) :: .inLoop (sub [1,1,1,0,1,0,0,1,0,1,1,0,0,1,0,0,1,1,1,0,0] B25) :: .inBlock 7 :: K) [(3,j_o1_2767_v),(6,.bool j6_2768),(7,.int .i64 x7_1612),(8,v2657),(9,.int .i64 x9_2662)] [(Value.ownBlock j_o1_2767_v,.cells j_o1_2767_c 25 (0,0))]:=by
    intro j_o1_2767_v j_o1_2767_c ho_j_o1_2767
    refine TT.inBlock ?_
    refine TT.rg [0,1,2] [kp,kp,kp] rfl rfl ?_
    refine DL.mv 77 (.int .i64 x9_2662) rfl rfl rfl ?_
    refine DL.pu 78 (.int .i64 (IntKind.i64.wrap (x9_2662 + 1))) rfl (p_add rfl rfl rfl) ?_
    refine DL.pu 9 (.int .i64 (IntKind.i64.wrap (x9_2662 + 1))) rfl (p_assign rfl rfl) ?_
    refine DL.nil ?_
    refine TT.inLoop ?_
    exact TT.weak (ih j_o1_2767 j6_2768 (IntKind.i64.wrap (x9_2662 + 1)) j_o1_2767_v j_o1_2767_c r0_ r1_ ho_j_o1_2767 h2770 hk) (Sub.cons rfl (Sub.cons rfl (Sub.cons rfl (Sub.cons rfl (Sub.cons rfl (Sub.nil _))))))
   by_cases c2766 : (!t2763) = true
   ·
    have h2773:=ite_true c2766 h2769
    refine TT.cond_true (x:=sub [1,1,1,0,1,0,0,1,0,1,1,0,0,1,0,0,1,1,1,0,0,1,0,0,1,0] B25) (y:=sub [1,1,1,0,1,0,0,1,0,1,1,0,0,1,0,0,1,1,1,0,0,1,0,0,1,1] B25) rfl c2766 ?_
    refine TT.seq (x:=sub [1,1,1,0,1,0,0,1,0,1,1,0,0,1,0,0,1,1,1,0,0,1,0,0,1,0,0] B25) (y:=sub [1,1,1,0,1,0,0,1,0,1,1,0,0,1,0,0,1,1,1,0,0,1,0,0,1,0,1] B25) ?_
    refine TT.rg [0,1,2,3,4,5,6,7] [kp,kp,kp,kp,kp,(.alloc,none),kx,kp] rfl rfl ?_
    refine DL.mv 86 (y_2660_v) rfl rfl rfl ?_
    refine DL.mv 87 (v2657) rfl rfl rfl ?_
    refine DL.mv 88 (.int .i64 x9_2662) rfl rfl rfl ?_
    refine DL.pu 89 (elp v2657 (x9_2662.toNat * 3)) rfl (p_slIx ty_u22 ty_s25 (RowS.some hr_v2657 g2755 g2757) g2755 g2757 rfl rfl rfl) ?_
    obtain ⟨t2775,e2776,h2777⟩:=nm_some h2773
    obtain ⟨cs2774,hc2774,hl2774⟩:=id (hr_v2657)
    have q2774:=hl2774 _ _ (getD_some Tm.dflt (lt_len g2755 g2757)); rw [← e2776] at q2774
    obtain ⟨t2775_2,hq2774,hr_t2775_2⟩:=Tm.op q2774
    refine DL.imm (v:=.agg (Tm.ce t2775 t2775_2)) rfl (Wn.none rfl) rfl rfl rfl (i_loadElA (RowV.mono hc2774 hE.mi) hq2774 (lt_len g2755 g2757) ty_a25 ty_s25 rfl rfl) ?_
    refine DL.newS (M:=M) (s:=ShTm) (zs:=[t2775]) (cells:=[.int .i64 (Tm.kind t2775),.int .i64 (Tm.num t2775),t2775_2]) (n:=1) rfl (by decide) rfl (fun i x hx => by match i,hx with | 0,hx => cases hx; exact (Tm.cl (t:=t2775) hr_t2775_2) | k + 1,hx => simp at hx) (i:=5) rfl (Wn.none rfl) rfl rfl rfl (f_buildS (n:=1) (vs:=[(0,.agg (Tm.ce t2775 t2775_2))]) elem22 rfl rfl (by kernel_rfl) rfl (args_val2 rfl)) ?_
    intro s2779_v s2779_c ho_s2779
    obtain ⟨g2780,h2781⟩:=req_some h2777
    refine DL.appendS (M:=M) (s:=ShTm) (fun s2782_v s2782_c => [(Value.ownBlock s2779_v,.cells s2779_c 25 (0,0)),(Value.ownBlock s2782_v,.cells s2782_c 25 (0,0))]) elem22 (j:=1) rfl ho_y_2660 g2780 (by decide) (OwnS.src (i:=0) ho_s2779 rfl) (i:=6) rfl (Wn.none rfl) rfl rfl rfl rfl rfl rfl (fun _ _ => rfl) ?_
    intro s2782_v s2782_c ho_s2782
    show DL _ _ _ _ _ _ _ _ _ _ _ _ [(Value.ownBlock s2779_v,.cells s2779_c 25 (0,0)),(Value.ownBlock s2782_v,.cells s2782_c 25 (0,0))]
    refine DL.pu 3 (s2782_v) rfl (p_assign rfl rfl) ?_
    refine DL.nil ?_
    refine TT.rg [0] [kp] rfl rfl ?_
    refine DL.pu 6 (.bool true) rfl (p_assign rfl rfl) ?_
    refine DL.nil ?_
    simp only [Option.some.injEq,Prod.mk.injEq] at h2781
    obtain ⟨rfl,rfl⟩:=h2781
    exact TT.pick [1] (by decide) (TT.weak (J2771 s2782_v s2782_c ho_s2782) (Sub.cons rfl (Sub.cons rfl (Sub.cons rfl (Sub.cons rfl (Sub.cons rfl (Sub.nil _)))))))
   ·
    replace c2766:=Bool.eq_false_iff.mpr c2766
    have h2783:=ite_false c2766 h2769
    refine TT.cond_false (x:=sub [1,1,1,0,1,0,0,1,0,1,1,0,0,1,0,0,1,1,1,0,0,1,0,0,1,0] B25) (y:=sub [1,1,1,0,1,0,0,1,0,1,1,0,0,1,0,0,1,1,1,0,0,1,0,0,1,1] B25) rfl c2766 ?_
    refine TT.skip ?_
    simp only [Option.some.injEq,Prod.mk.injEq] at h2783
    obtain ⟨rfl,rfl⟩:=h2783
    exact TT.weak (J2771 y_2660_v y_2660_c ho_y_2660) (Sub.cons rfl (Sub.cons rfl (Sub.cons rfl (Sub.cons rfl (Sub.cons rfl (Sub.nil _))))))
  ·
   replace c2753:=Bool.eq_false_iff.mpr c2753
   have h2784:=ite_false c2753 h2752
   refine TT.cond_false (x:=sub [1,1,1,0,1,0,0,1,0,1,1,0,0,1,0,0,1,1,1,0,0,0,1,0] B25) (y:=sub [1,1,1,0,1,0,0,1,0,1,1,0,0,1,0,0,1,1,1,0,0,0,1,1] B25) rfl c2753 ?_
   refine TT.exit rfl ?_
   simp only [Option.some.injEq,Prod.mk.injEq] at h2784
   obtain ⟨rfl,rfl⟩:=h2784
   exact TT.weak (hk y_2660_v y_2660_c ho_y_2660) (Sub.cons rfl (Sub.cons rfl (Sub.cons rfl (Sub.nil _))))

def ref29_Learn.L6 : Nat → (List Tm) → Bool → Int → Option (List Tm × Bool)
 | 0,_,_,_ => none
 | k + 1,y_2789,x6_2790,x9_2791 => nm (decide (x9_2791 < (([] : List Tm).length : Int))) fun t2876 => if t2876 = true then (req (0 ≤ x9_2791) (req (x9_2791 < (([] : List Tm).length : Int)) (nm (([] : List Tm).getD x9_2791.toNat Tm.dflt) fun t2886 => (ref29_in.f t2886 y_2789).bind fun t2889 => (if (!t2889) = true then (nm (([] : List Tm).getD x9_2791.toNat Tm.dflt) fun t2901 => req (y_2789.length + [t2901].length ≤ 1099511627776) (some ((y_2789 ++ [t2901]),true))) else (some (y_2789,x6_2790))).bind fun (j_o1_2893,j6_2894) => ref29_Learn.L6 k j_o1_2893 j6_2894 (IntKind.i64.wrap (x9_2791 + 1))))) else (some (y_2789,x6_2790))
set_option maxRecDepth 20000 in
theorem ref29_Learn.L6_ok (x7_1612 : Int) {R : Ending → World → Prop} {w0 : World} {M0 M I : Mem} {K : List Item} (hE : Env w0 M0 M I) :
  ∀ (k : Nat) (y_2789 : List Tm) (x6_2790 : Bool) (x9_2791 : Int) (y_2789_v : Value) (y_2789_c : Array Value) (r0_ : List Tm) (r1_ : Bool) (ho_y_2789 : OwnS ShTm M y_2789_v y_2789_c y_2789) (h : ref29_Learn.L6 k y_2789 x6_2790 x9_2791 = some (r0_,r1_)) (hk : ∀ (z_o1_2874_v : Value),∀ (z_o1_2874_c : Array Value),OwnS ShTm M z_o1_2874_v z_o1_2874_c r0_ → TT Tryd.prog 25 R 94 w0 I K [(3,z_o1_2874_v),(6,.bool r1_),(7,.int .i64 x7_1612)] [(Value.ownBlock z_o1_2874_v,.cells z_o1_2874_c 25 (0,0))]),
   TT Tryd.prog 25 R 94 w0 I (.code (sub [1,1,1,0,1,0,0,1,0,1,1,0,0,1,0,0,1,1,1,0,0] B25) :: .inLoop (sub [1,1,1,0,1,0,0,1,0,1,1,0,0,1,0,0,1,1,1,0,0] B25) :: .inBlock 7 :: K) [(3,y_2789_v),(6,.bool x6_2790),(7,.int .i64 x7_1612),(8,.slice none 0 0),(9,.int .i64 x9_2791)] [(Value.ownBlock y_2789_v,.cells y_2789_c 25 (0,0))]:=by
 intro k
 induction k with
 | zero => intro y_2789 x6_2790 x9_2791 y_2789_v y_2789_c r0_ r1_ ho_y_2789 h; simp [ref29_Learn.L6] at h
 | succ k ih =>
  intro y_2789 x6_2790 x9_2791 y_2789_v y_2789_c r0_ r1_ ho_y_2789 h hk
  unfold ref29_Learn.L6 at h
  refine TT.seq (x:=sub [1,1,1,0,1,0,0,1,0,1,1,0,0,1,0,0,1,1,1,0,0,0] B25) (y:=sub [1,1,1,0,1,0,0,1,0,1,1,0,0,1,0,0,1,1,1,0,0,1] B25) ?_
  refine TT.seq (x:=sub [1,1,1,0,1,0,0,1,0,1,1,0,0,1,0,0,1,1,1,0,0,0,0] B25) (y:=sub [1,1,1,0,1,0,0,1,0,1,1,0,0,1,0,0,1,1,1,0,0,0,1] B25) ?_
  refine TT.rg [0,1,2,3] [kp,kp,kp,kp] rfl rfl ?_
  refine DL.mv 73 (.int .i64 x9_2791) rfl rfl rfl ?_
  refine DL.mv 74 (.slice none 0 0) rfl rfl rfl ?_
  refine DL.pu 75 (.int .i64 (([] : List Tm).length : Int)) rfl (p_slLen ty_u22 (RowS.sl (RowS.nil ShTm M)) rfl rfl) ?_
  obtain ⟨t2876,e2877,h2878⟩:=nm_some h
  refine DL.pu 76 (.bool t2876) rfl (by rw [e2877]; exact p_lss rfl rfl rfl) ?_
  refine DL.nil ?_
  by_cases c2879 : t2876 = true
  ·
   have h2880:=ite_true c2879 h2878
   refine TT.cond_true (x:=sub [1,1,1,0,1,0,0,1,0,1,1,0,0,1,0,0,1,1,1,0,0,0,1,0] B25) (y:=sub [1,1,1,0,1,0,0,1,0,1,1,0,0,1,0,0,1,1,1,0,0,0,1,1] B25) rfl c2879 ?_
   refine TT.skip ?_
   refine TT.seq (x:=sub [1,1,1,0,1,0,0,1,0,1,1,0,0,1,0,0,1,1,1,0,0,1,0] B25) (y:=sub [1,1,1,0,1,0,0,1,0,1,1,0,0,1,0,0,1,1,1,0,0,1,1] B25) ?_
   refine TT.block (c:=sub [1,1,1,0,1,0,0,1,0,1,1,0,0,1,0,0,1,1,1,0,0,1,0,0] B25) ?_
   refine TT.seq (x:=sub [1,1,1,0,1,0,0,1,0,1,1,0,0,1,0,0,1,1,1,0,0,1,0,0,0] B25) (y:=sub [1,1,1,0,1,0,0,1,0,1,1,0,0,1,0,0,1,1,1,0,0,1,0,0,1] B25) ?_
   refine TT.rg [0,1,2,3,4,5,6] [kp,kp,kp,kq,kp,kq,kp] rfl rfl ?_
   refine DL.mv 79 (.slice none 0 0) rfl rfl rfl ?_
   refine DL.mv 80 (.int .i64 x9_2791) rfl rfl rfl ?_
   obtain ⟨g2881,h2882⟩:=req_some h2880
   obtain ⟨g2883,h2884⟩:=req_some h2882
   refine DL.pu 81 (elp (.slice none 0 0) (x9_2791.toNat * 3)) rfl (p_slIx ty_u22 ty_s25 (RowS.some (RowS.nil ShTm M) g2881 g2883) g2881 g2883 rfl rfl rfl) ?_
   obtain ⟨t2886,e2887,h2888⟩:=nm_some h2884
   obtain ⟨cs2885,hc2885,hl2885⟩:=id ((RowS.nil ShTm M))
   have q2885:=hl2885 _ _ (getD_some Tm.dflt (lt_len g2881 g2883)); rw [← e2887] at q2885
   obtain ⟨t2886_2,hq2885,hr_t2886_2⟩:=Tm.op q2885
   refine DL.qu 82 (.agg (Tm.ce t2886 t2886_2)) rfl (q_loadElA (fun w hc => hE.imm hc) hc2885 hq2885 (lt_len g2881 g2883) ty_a25 ty_s25 rfl rfl) ?_
   refine DL.mv 83 (y_2789_v) rfl rfl rfl ?_
   obtain ⟨t2889,h2890,h2891⟩:=bind_some h2888
   refine DL.qu 84 (.bool t2889) rfl (f_callR rfl rfl (args_val (vs:=[.agg (Tm.ce t2886 t2886_2),y_2789_v]) rfl) (fun w => enter44 _ w) (fun w hc => ref29_in.val h2890 (M:=heapOf w) w (Ext.refl _) (RowS.mono hr_t2886_2 (hE.ext hc)) (OwnS.row ho_y_2789 (hE.ext hc) hc (i:=0) rfl))) ?_
   refine DL.pu 85 (.bool (!t2889)) rfl (p_not rfl rfl) ?_
   refine DL.nil ?_
   obtain ⟨⟨j_o1_2893,j6_2894⟩,h2895,h2896⟩:=bind_some h2891
   have J2897 : ∀ (j_o1_2893_v : Value),∀ (j_o1_2893_c : Array Value),OwnS ShTm M j_o1_2893_v j_o1_2893_c j_o1_2893 → TT Tryd.prog 25 R 94 w0 I (.inBlock 8 :: .code (sub [1,1,1,0,1,0,0,1,0,1,1,0,0,1,0,0,1,1,1,0,0,1,1] B25) :: .inLoop (sub [1,1,1,0,1,0,0,1,0,1,1,0,0,1,0,0,1,1,1,0,0] B25) :: .inBlock 7 :: K) [(3,j_o1_2893_v),(6,.bool j6_2894),(7,.int .i64 x7_1612),(8,.slice none 0 0),(9,.int .i64 x9_2791)] [(Value.ownBlock j_o1_2893_v,.cells j_o1_2893_c 25 (0,0))]:=by
    intro j_o1_2893_v j_o1_2893_c ho_j_o1_2893
    refine TT.inBlock ?_
    refine TT.rg [0,1,2] [kp,kp,kp] rfl rfl ?_
    refine DL.mv 77 (.int .i64 x9_2791) rfl rfl rfl ?_
    refine DL.pu 78 (.int .i64 (IntKind.i64.wrap (x9_2791 + 1))) rfl (p_add rfl rfl rfl) ?_
    refine DL.pu 9 (.int .i64 (IntKind.i64.wrap (x9_2791 + 1))) rfl (p_assign rfl rfl) ?_
    refine DL.nil ?_
    refine TT.inLoop ?_
    exact TT.weak (ih j_o1_2893 j6_2894 (IntKind.i64.wrap (x9_2791 + 1)) j_o1_2893_v j_o1_2893_c r0_ r1_ ho_j_o1_2893 h2896 hk) (Sub.cons rfl (Sub.cons rfl (Sub.cons rfl (Sub.cons rfl (Sub.cons rfl (Sub.nil _))))))
   by_cases c2892 : (!t2889) = true
   ·
    have h2899:=ite_true c2892 h2895
    refine TT.cond_true (x:=sub [1,1,1,0,1,0,0,1,0,1,1,0,0,1,0,0,1,1,1,0,0,1,0,0,1,0] B25) (y:=sub [1,1,1,0,1,0,0,1,0,1,1,0,0,1,0,0,1,1,1,0,0,1,0,0,1,1] B25) rfl c2892 ?_
    refine TT.seq (x:=sub [1,1,1,0,1,0,0,1,0,1,1,0,0,1,0,0,1,1,1,0,0,1,0,0,1,0,0] B25) (y:=sub [1,1,1,0,1,0,0,1,0,1,1,0,0,1,0,0,1,1,1,0,0,1,0,0,1,0,1] B25) ?_
    refine TT.rg [0,1,2,3,4,5,6,7] [kp,kp,kp,kp,kq,(.alloc,none),kx,kp] rfl rfl ?_
    refine DL.mv 86 (y_2789_v) rfl rfl rfl ?_
    refine DL.mv 87 (.slice none 0 0) rfl rfl rfl ?_
    refine DL.mv 88 (.int .i64 x9_2791) rfl rfl rfl ?_
    refine DL.pu 89 (elp (.slice none 0 0) (x9_2791.toNat * 3)) rfl (p_slIx ty_u22 ty_s25 (RowS.some (RowS.nil ShTm M) g2881 g2883) g2881 g2883 rfl rfl rfl) ?_
    obtain ⟨t2901,e2902,h2903⟩:=nm_some h2899
    obtain ⟨cs2900,hc2900,hl2900⟩:=id ((RowS.nil ShTm M))
    have q2900:=hl2900 _ _ (getD_some Tm.dflt (lt_len g2881 g2883)); rw [← e2902] at q2900
    obtain ⟨t2901_2,hq2900,hr_t2901_2⟩:=Tm.op q2900
    refine DL.qu 90 (.agg (Tm.ce t2901 t2901_2)) rfl (q_loadElA (fun w hc => hE.imm hc) hc2900 hq2900 (lt_len g2881 g2883) ty_a25 ty_s25 rfl rfl) ?_
    refine DL.newS (M:=M) (s:=ShTm) (zs:=[t2901]) (cells:=[.int .i64 (Tm.kind t2901),.int .i64 (Tm.num t2901),t2901_2]) (n:=1) rfl (by decide) rfl (fun i x hx => by match i,hx with | 0,hx => cases hx; exact (Tm.cl (t:=t2901) hr_t2901_2) | k + 1,hx => simp at hx) (i:=5) rfl (Wn.none rfl) rfl rfl rfl (f_buildS (n:=1) (vs:=[(0,.agg (Tm.ce t2901 t2901_2))]) elem22 rfl rfl (by kernel_rfl) rfl (args_val2 rfl)) ?_
    intro s2905_v s2905_c ho_s2905
    obtain ⟨g2906,h2907⟩:=req_some h2903
    refine DL.appendS (M:=M) (s:=ShTm) (fun s2908_v s2908_c => [(Value.ownBlock s2905_v,.cells s2905_c 25 (0,0)),(Value.ownBlock s2908_v,.cells s2908_c 25 (0,0))]) elem22 (j:=1) rfl ho_y_2789 g2906 (by decide) (OwnS.src (i:=0) ho_s2905 rfl) (i:=6) rfl (Wn.none rfl) rfl rfl rfl rfl rfl rfl (fun _ _ => rfl) ?_
    intro s2908_v s2908_c ho_s2908
    show DL _ _ _ _ _ _ _ _ _ _ _ _ [(Value.ownBlock s2905_v,.cells s2905_c 25 (0,0)),(Value.ownBlock s2908_v,.cells s2908_c 25 (0,0))]
    refine DL.pu 3 (s2908_v) rfl (p_assign rfl rfl) ?_
    refine DL.nil ?_
    refine TT.rg [0] [kp] rfl rfl ?_
    refine DL.pu 6 (.bool true) rfl (p_assign rfl rfl) ?_
    refine DL.nil ?_
    simp only [Option.some.injEq,Prod.mk.injEq] at h2907
    obtain ⟨rfl,rfl⟩:=h2907
    exact TT.pick [1] (by decide) (TT.weak (J2897 s2908_v s2908_c ho_s2908) (Sub.cons rfl (Sub.cons rfl (Sub.cons rfl (Sub.cons rfl (Sub.cons rfl (Sub.nil _)))))))
   ·
    replace c2892:=Bool.eq_false_iff.mpr c2892
    have h2909:=ite_false c2892 h2895
    refine TT.cond_false (x:=sub [1,1,1,0,1,0,0,1,0,1,1,0,0,1,0,0,1,1,1,0,0,1,0,0,1,0] B25) (y:=sub [1,1,1,0,1,0,0,1,0,1,1,0,0,1,0,0,1,1,1,0,0,1,0,0,1,1] B25) rfl c2892 ?_
    refine TT.skip ?_
    simp only [Option.some.injEq,Prod.mk.injEq] at h2909
    obtain ⟨rfl,rfl⟩:=h2909
    exact TT.weak (J2897 y_2789_v y_2789_c ho_y_2789) (Sub.cons rfl (Sub.cons rfl (Sub.cons rfl (Sub.cons rfl (Sub.cons rfl (Sub.nil _))))))
  ·
   replace c2879:=Bool.eq_false_iff.mpr c2879
   have h2910:=ite_false c2879 h2878
   refine TT.cond_false (x:=sub [1,1,1,0,1,0,0,1,0,1,1,0,0,1,0,0,1,1,1,0,0,0,1,0] B25) (y:=sub [1,1,1,0,1,0,0,1,0,1,1,0,0,1,0,0,1,1,1,0,0,0,1,1] B25) rfl c2879 ?_
   refine TT.exit rfl ?_
   simp only [Option.some.injEq,Prod.mk.injEq] at h2910
   obtain ⟨rfl,rfl⟩:=h2910
   exact TT.weak (hk y_2789_v y_2789_c ho_y_2789) (Sub.cons rfl (Sub.cons rfl (Sub.cons rfl (Sub.nil _))))

def ref29_Learn.L7 : Nat → (List Tm) → Bool → Int → Option (List Tm × Bool)
 | 0,_,_,_ => none
 | k + 1,y_2915,x6_2916,x9_2917 => nm (decide (x9_2917 < (([] : List Tm).length : Int))) fun t3002 => if t3002 = true then (req (0 ≤ x9_2917) (req (x9_2917 < (([] : List Tm).length : Int)) (nm (([] : List Tm).getD x9_2917.toNat Tm.dflt) fun t3012 => (ref29_in.f t3012 y_2915).bind fun t3015 => (if (!t3015) = true then (nm (([] : List Tm).getD x9_2917.toNat Tm.dflt) fun t3027 => req (y_2915.length + [t3027].length ≤ 1099511627776) (some ((y_2915 ++ [t3027]),true))) else (some (y_2915,x6_2916))).bind fun (j_o1_3019,j6_3020) => ref29_Learn.L7 k j_o1_3019 j6_3020 (IntKind.i64.wrap (x9_2917 + 1))))) else (some (y_2915,x6_2916))
set_option maxRecDepth 20000 in
theorem ref29_Learn.L7_ok (x7_1612 : Int) {R : Ending → World → Prop} {w0 : World} {M0 M I : Mem} {K : List Item} (hE : Env w0 M0 M I) :
  ∀ (k : Nat) (y_2915 : List Tm) (x6_2916 : Bool) (x9_2917 : Int) (y_2915_v : Value) (y_2915_c : Array Value) (r0_ : List Tm) (r1_ : Bool) (ho_y_2915 : OwnS ShTm M y_2915_v y_2915_c y_2915) (h : ref29_Learn.L7 k y_2915 x6_2916 x9_2917 = some (r0_,r1_)) (hk : ∀ (z_o1_3000_v : Value),∀ (z_o1_3000_c : Array Value),OwnS ShTm M z_o1_3000_v z_o1_3000_c r0_ → TT Tryd.prog 25 R 94 w0 I K [(3,z_o1_3000_v),(6,.bool r1_),(7,.int .i64 x7_1612)] [(Value.ownBlock z_o1_3000_v,.cells z_o1_3000_c 25 (0,0))]),
   TT Tryd.prog 25 R 94 w0 I (.code (sub [1,1,1,0,1,0,0,1,0,1,1,0,0,1,0,0,1,1,1,0,0] B25) :: .inLoop (sub [1,1,1,0,1,0,0,1,0,1,1,0,0,1,0,0,1,1,1,0,0] B25) :: .inBlock 7 :: K) [(3,y_2915_v),(6,.bool x6_2916),(7,.int .i64 x7_1612),(8,.slice none 0 0),(9,.int .i64 x9_2917)] [(Value.ownBlock y_2915_v,.cells y_2915_c 25 (0,0))]:=by
 intro k
 induction k with
 | zero => intro y_2915 x6_2916 x9_2917 y_2915_v y_2915_c r0_ r1_ ho_y_2915 h; simp [ref29_Learn.L7] at h
 | succ k ih =>
  intro y_2915 x6_2916 x9_2917 y_2915_v y_2915_c r0_ r1_ ho_y_2915 h hk
  unfold ref29_Learn.L7 at h
  refine TT.seq (x:=sub [1,1,1,0,1,0,0,1,0,1,1,0,0,1,0,0,1,1,1,0,0,0] B25) (y:=sub [1,1,1,0,1,0,0,1,0,1,1,0,0,1,0,0,1,1,1,0,0,1] B25) ?_
  refine TT.seq (x:=sub [1,1,1,0,1,0,0,1,0,1,1,0,0,1,0,0,1,1,1,0,0,0,0] B25) (y:=sub [1,1,1,0,1,0,0,1,0,1,1,0,0,1,0,0,1,1,1,0,0,0,1] B25) ?_
  refine TT.rg [0,1,2,3] [kp,kp,kp,kp] rfl rfl ?_
  refine DL.mv 73 (.int .i64 x9_2917) rfl rfl rfl ?_
  refine DL.mv 74 (.slice none 0 0) rfl rfl rfl ?_
  refine DL.pu 75 (.int .i64 (([] : List Tm).length : Int)) rfl (p_slLen ty_u22 (RowS.sl (RowS.nil ShTm M)) rfl rfl) ?_
  obtain ⟨t3002,e3003,h3004⟩:=nm_some h
  refine DL.pu 76 (.bool t3002) rfl (by rw [e3003]; exact p_lss rfl rfl rfl) ?_
  refine DL.nil ?_
  by_cases c3005 : t3002 = true
  ·
   have h3006:=ite_true c3005 h3004
   refine TT.cond_true (x:=sub [1,1,1,0,1,0,0,1,0,1,1,0,0,1,0,0,1,1,1,0,0,0,1,0] B25) (y:=sub [1,1,1,0,1,0,0,1,0,1,1,0,0,1,0,0,1,1,1,0,0,0,1,1] B25) rfl c3005 ?_
   refine TT.skip ?_
   refine TT.seq (x:=sub [1,1,1,0,1,0,0,1,0,1,1,0,0,1,0,0,1,1,1,0,0,1,0] B25) (y:=sub [1,1,1,0,1,0,0,1,0,1,1,0,0,1,0,0,1,1,1,0,0,1,1] B25) ?_
   refine TT.block (c:=sub [1,1,1,0,1,0,0,1,0,1,1,0,0,1,0,0,1,1,1,0,0,1,0,0] B25) ?_
   refine TT.seq (x:=sub [1,1,1,0,1,0,0,1,0,1,1,0,0,1,0,0,1,1,1,0,0,1,0,0,0] B25) (y:=sub [1,1,1,0,1,0,0,1,0,1,1,0,0,1,0,0,1,1,1,0,0,1,0,0,1] B25) ?_
   refine TT.rg [0,1,2,3,4,5,6] [kp,kp,kp,kq,kp,kq,kp] rfl rfl ?_
   refine DL.mv 79 (.slice none 0 0) rfl rfl rfl ?_
   refine DL.mv 80 (.int .i64 x9_2917) rfl rfl rfl ?_
   obtain ⟨g3007,h3008⟩:=req_some h3006
   obtain ⟨g3009,h3010⟩:=req_some h3008
   refine DL.pu 81 (elp (.slice none 0 0) (x9_2917.toNat * 3)) rfl (p_slIx ty_u22 ty_s25 (RowS.some (RowS.nil ShTm M) g3007 g3009) g3007 g3009 rfl rfl rfl) ?_
   obtain ⟨t3012,e3013,h3014⟩:=nm_some h3010
   obtain ⟨cs3011,hc3011,hl3011⟩:=id ((RowS.nil ShTm M))
   have q3011:=hl3011 _ _ (getD_some Tm.dflt (lt_len g3007 g3009)); rw [← e3013] at q3011
   obtain ⟨t3012_2,hq3011,hr_t3012_2⟩:=Tm.op q3011
   refine DL.qu 82 (.agg (Tm.ce t3012 t3012_2)) rfl (q_loadElA (fun w hc => hE.imm hc) hc3011 hq3011 (lt_len g3007 g3009) ty_a25 ty_s25 rfl rfl) ?_
   refine DL.mv 83 (y_2915_v) rfl rfl rfl ?_
   obtain ⟨t3015,h3016,h3017⟩:=bind_some h3014
   refine DL.qu 84 (.bool t3015) rfl (f_callR rfl rfl (args_val (vs:=[.agg (Tm.ce t3012 t3012_2),y_2915_v]) rfl) (fun w => enter44 _ w) (fun w hc => ref29_in.val h3016 (M:=heapOf w) w (Ext.refl _) (RowS.mono hr_t3012_2 (hE.ext hc)) (OwnS.row ho_y_2915 (hE.ext hc) hc (i:=0) rfl))) ?_
   refine DL.pu 85 (.bool (!t3015)) rfl (p_not rfl rfl) ?_
   refine DL.nil ?_
   obtain ⟨⟨j_o1_3019,j6_3020⟩,h3021,h3022⟩:=bind_some h3017
   have J3023 : ∀ (j_o1_3019_v : Value),∀ (j_o1_3019_c : Array Value),OwnS ShTm M j_o1_3019_v j_o1_3019_c j_o1_3019 → TT Tryd.prog 25 R 94 w0 I (.inBlock 8 :: .code (sub [1,1,1,0,1,0,0,1,0,1,1,0,0,1,0,0,1,1,1,0,0,1,1] B25) :: .inLoop (sub [1,1,1,0,1,0,0,1,0,1,1,0,0,1,0,0,1,1,1,0,0] B25) :: .inBlock 7 :: K) [(3,j_o1_3019_v),(6,.bool j6_3020),(7,.int .i64 x7_1612),(8,.slice none 0 0),(9,.int .i64 x9_2917)] [(Value.ownBlock j_o1_3019_v,.cells j_o1_3019_c 25 (0,0))]:=by
    intro j_o1_3019_v j_o1_3019_c ho_j_o1_3019
    refine TT.inBlock ?_
    refine TT.rg [0,1,2] [kp,kp,kp] rfl rfl ?_
    refine DL.mv 77 (.int .i64 x9_2917) rfl rfl rfl ?_
    refine DL.pu 78 (.int .i64 (IntKind.i64.wrap (x9_2917 + 1))) rfl (p_add rfl rfl rfl) ?_
    refine DL.pu 9 (.int .i64 (IntKind.i64.wrap (x9_2917 + 1))) rfl (p_assign rfl rfl) ?_
    refine DL.nil ?_
    refine TT.inLoop ?_
    exact TT.weak (ih j_o1_3019 j6_3020 (IntKind.i64.wrap (x9_2917 + 1)) j_o1_3019_v j_o1_3019_c r0_ r1_ ho_j_o1_3019 h3022 hk) (Sub.cons rfl (Sub.cons rfl (Sub.cons rfl (Sub.cons rfl (Sub.cons rfl (Sub.nil _))))))
   by_cases c3018 : (!t3015) = true
   ·
    have h3025:=ite_true c3018 h3021
    refine TT.cond_true (x:=sub [1,1,1,0,1,0,0,1,0,1,1,0,0,1,0,0,1,1,1,0,0,1,0,0,1,0] B25) (y:=sub [1,1,1,0,1,0,0,1,0,1,1,0,0,1,0,0,1,1,1,0,0,1,0,0,1,1] B25) rfl c3018 ?_
    refine TT.seq (x:=sub [1,1,1,0,1,0,0,1,0,1,1,0,0,1,0,0,1,1,1,0,0,1,0,0,1,0,0] B25) (y:=sub [1,1,1,0,1,0,0,1,0,1,1,0,0,1,0,0,1,1,1,0,0,1,0,0,1,0,1] B25) ?_
    refine TT.rg [0,1,2,3,4,5,6,7] [kp,kp,kp,kp,kq,(.alloc,none),kx,kp] rfl rfl ?_
    refine DL.mv 86 (y_2915_v) rfl rfl rfl ?_
    refine DL.mv 87 (.slice none 0 0) rfl rfl rfl ?_
    refine DL.mv 88 (.int .i64 x9_2917) rfl rfl rfl ?_
    refine DL.pu 89 (elp (.slice none 0 0) (x9_2917.toNat * 3)) rfl (p_slIx ty_u22 ty_s25 (RowS.some (RowS.nil ShTm M) g3007 g3009) g3007 g3009 rfl rfl rfl) ?_
    obtain ⟨t3027,e3028,h3029⟩:=nm_some h3025
    obtain ⟨cs3026,hc3026,hl3026⟩:=id ((RowS.nil ShTm M))
    have q3026:=hl3026 _ _ (getD_some Tm.dflt (lt_len g3007 g3009)); rw [← e3028] at q3026
    obtain ⟨t3027_2,hq3026,hr_t3027_2⟩:=Tm.op q3026
    refine DL.qu 90 (.agg (Tm.ce t3027 t3027_2)) rfl (q_loadElA (fun w hc => hE.imm hc) hc3026 hq3026 (lt_len g3007 g3009) ty_a25 ty_s25 rfl rfl) ?_
    refine DL.newS (M:=M) (s:=ShTm) (zs:=[t3027]) (cells:=[.int .i64 (Tm.kind t3027),.int .i64 (Tm.num t3027),t3027_2]) (n:=1) rfl (by decide) rfl (fun i x hx => by match i,hx with | 0,hx => cases hx; exact (Tm.cl (t:=t3027) hr_t3027_2) | k + 1,hx => simp at hx) (i:=5) rfl (Wn.none rfl) rfl rfl rfl (f_buildS (n:=1) (vs:=[(0,.agg (Tm.ce t3027 t3027_2))]) elem22 rfl rfl (by kernel_rfl) rfl (args_val2 rfl)) ?_
    intro s3031_v s3031_c ho_s3031
    obtain ⟨g3032,h3033⟩:=req_some h3029
    refine DL.appendS (M:=M) (s:=ShTm) (fun s3034_v s3034_c => [(Value.ownBlock s3031_v,.cells s3031_c 25 (0,0)),(Value.ownBlock s3034_v,.cells s3034_c 25 (0,0))]) elem22 (j:=1) rfl ho_y_2915 g3032 (by decide) (OwnS.src (i:=0) ho_s3031 rfl) (i:=6) rfl (Wn.none rfl) rfl rfl rfl rfl rfl rfl (fun _ _ => rfl) ?_
    intro s3034_v s3034_c ho_s3034
    show DL _ _ _ _ _ _ _ _ _ _ _ _ [(Value.ownBlock s3031_v,.cells s3031_c 25 (0,0)),(Value.ownBlock s3034_v,.cells s3034_c 25 (0,0))]
    refine DL.pu 3 (s3034_v) rfl (p_assign rfl rfl) ?_
    refine DL.nil ?_
    refine TT.rg [0] [kp] rfl rfl ?_
    refine DL.pu 6 (.bool true) rfl (p_assign rfl rfl) ?_
    refine DL.nil ?_
    simp only [Option.some.injEq,Prod.mk.injEq] at h3033
    obtain ⟨rfl,rfl⟩:=h3033
    exact TT.pick [1] (by decide) (TT.weak (J3023 s3034_v s3034_c ho_s3034) (Sub.cons rfl (Sub.cons rfl (Sub.cons rfl (Sub.cons rfl (Sub.cons rfl (Sub.nil _)))))))
   ·
    replace c3018:=Bool.eq_false_iff.mpr c3018
    have h3035:=ite_false c3018 h3021
    refine TT.cond_false (x:=sub [1,1,1,0,1,0,0,1,0,1,1,0,0,1,0,0,1,1,1,0,0,1,0,0,1,0] B25) (y:=sub [1,1,1,0,1,0,0,1,0,1,1,0,0,1,0,0,1,1,1,0,0,1,0,0,1,1] B25) rfl c3018 ?_
    refine TT.skip ?_
    simp only [Option.some.injEq,Prod.mk.injEq] at h3035
    obtain ⟨rfl,rfl⟩:=h3035
    exact TT.weak (J3023 y_2915_v y_2915_c ho_y_2915) (Sub.cons rfl (Sub.cons rfl (Sub.cons rfl (Sub.cons rfl (Sub.cons rfl (Sub.nil _))))))
  ·
   replace c3005:=Bool.eq_false_iff.mpr c3005
   have h3036:=ite_false c3005 h3004
   refine TT.cond_false (x:=sub [1,1,1,0,1,0,0,1,0,1,1,0,0,1,0,0,1,1,1,0,0,0,1,0] B25) (y:=sub [1,1,1,0,1,0,0,1,0,1,1,0,0,1,0,0,1,1,1,0,0,0,1,1] B25) rfl c3005 ?_
   refine TT.exit rfl ?_
   simp only [Option.some.injEq,Prod.mk.injEq] at h3036
   obtain ⟨rfl,rfl⟩:=h3036
   exact TT.weak (hk y_2915_v y_2915_c ho_y_2915) (Sub.cons rfl (Sub.cons rfl (Sub.cons rfl (Sub.nil _))))

def ref29_Learn.L2 : Nat → (List Tm) → Bool → Int → Option (List Tm × Bool)
 | 0,_,_,_ => none
 | k + 1,y_1610,x6_1611,x7_1612 => if (decide (x7_1612 < (y_1610.length : Int))) = true then (req (0 ≤ x7_1612) (req (x7_1612 < (y_1610.length : Int)) (nm (y_1610.getD x7_1612.toNat Tm.dflt) fun t2360 => if ((Tm.kind t2360) == 7) = true then (nm (y_1610.getD x7_1612.toNat Tm.dflt) fun t2366 => (ref29_Learn.L3 t2366 100000 y_1610 x6_1611 0).bind fun (z_o1_2457,z6_2458) => ref29_Learn.L2 k z_o1_2457 z6_2458 (IntKind.i64.wrap (x7_1612 + 1))) else (if ((Tm.kind t2360) == 5) = true then (nm (y_1610.getD x7_1612.toNat Tm.dflt) fun t2501 => req ((1 : Int) ≤ ((Tree.kids t2501).length : Int)) ((ref29_Learn.L4 t2501 ((((Tree.kids t2501).drop (1 : Int).toNat).length : Int).toNat + 1) y_1610 x6_1611 0).bind fun (z_o1_2595,z6_2596) => ref29_Learn.L2 k z_o1_2595 z6_2596 (IntKind.i64.wrap (x7_1612 + 1)))) else (if ((Tm.kind t2360) == 4) = true then (nm (y_1610.getD x7_1612.toNat Tm.dflt) fun t2639 => req ((0 : Int) < ((Tree.kids t2639).length : Int)) (nm ((Tree.kids t2639).getD ((0 : Int).toNat) Tm.dflt) fun t2645 => (ref29_made.f (Tm.fuel t2645) t2645 y_1610).bind fun t2648 => if t2648 = true then (nm (y_1610.getD x7_1612.toNat Tm.dflt) fun t2654 => req ((1 : Int) ≤ ((Tree.kids t2654).length : Int)) ((ref29_Learn.L5 t2654 ((((Tree.kids t2654).drop (1 : Int).toNat).length : Int).toNat + 1) y_1610 x6_1611 0).bind fun (z_o1_2748,z6_2749) => ref29_Learn.L2 k z_o1_2748 z6_2749 (IntKind.i64.wrap (x7_1612 + 1)))) else ((ref29_Learn.L6 ((0 : Int).toNat + 1) y_1610 x6_1611 0).bind fun (z_o1_2874,z6_2875) => ref29_Learn.L2 k z_o1_2874 z6_2875 (IntKind.i64.wrap (x7_1612 + 1))))) else ((ref29_Learn.L7 ((0 : Int).toNat + 1) y_1610 x6_1611 0).bind fun (z_o1_3000,z6_3001) => ref29_Learn.L2 k z_o1_3000 z6_3001 (IntKind.i64.wrap (x7_1612 + 1)))))))) else (some (y_1610,x6_1611))
set_option maxRecDepth 20000 in
theorem ref29_Learn.L2_ok {R : Ending → World → Prop} {w0 : World} {M0 M I : Mem} {K : List Item} (hE : Env w0 M0 M I) :
  ∀ (k : Nat) (y_1610 : List Tm) (x6_1611 : Bool) (x7_1612 : Int) (y_1610_v : Value) (y_1610_c : Array Value) (r0_ : List Tm) (r1_ : Bool) (ho_y_1610 : OwnS ShTm M y_1610_v y_1610_c y_1610) (h : ref29_Learn.L2 k y_1610 x6_1611 x7_1612 = some (r0_,r1_)) (hk : ∀ (z_o1_2351_v : Value),∀ (z_o1_2351_c : Array Value),OwnS ShTm M z_o1_2351_v z_o1_2351_c r0_ → TT Tryd.prog 25 R 94 w0 I K [(3,z_o1_2351_v),(6,.bool r1_)] [(Value.ownBlock z_o1_2351_v,.cells z_o1_2351_c 25 (0,0))]),
   TT Tryd.prog 25 R 94 w0 I (.code (sub [1,1,1,0,1,0,0,1,0,1,1,0,0] B25) :: .inLoop (sub [1,1,1,0,1,0,0,1,0,1,1,0,0] B25) :: .inBlock 4 :: K) [(3,y_1610_v),(6,.bool x6_1611),(7,.int .i64 x7_1612)] [(Value.ownBlock y_1610_v,.cells y_1610_c 25 (0,0))]:=by
 intro k
 induction k with
 | zero => intro y_1610 x6_1611 x7_1612 y_1610_v y_1610_c r0_ r1_ ho_y_1610 h; simp [ref29_Learn.L2] at h
 | succ k ih =>
  intro y_1610 x6_1611 x7_1612 y_1610_v y_1610_c r0_ r1_ ho_y_1610 h hk
  unfold ref29_Learn.L2 at h
  refine TT.seq (x:=sub [1,1,1,0,1,0,0,1,0,1,1,0,0,0] B25) (y:=sub [1,1,1,0,1,0,0,1,0,1,1,0,0,1] B25) ?_
  refine TT.seq (x:=sub [1,1,1,0,1,0,0,1,0,1,1,0,0,0,0] B25) (y:=sub [1,1,1,0,1,0,0,1,0,1,1,0,0,0,1] B25) ?_
  refine TT.rg [0,1,2,3] [kp,kp,kp,kp] rfl rfl ?_
  refine DL.mv 30 (.int .i64 x7_1612) rfl rfl rfl ?_
  refine DL.mv 31 (y_1610_v) rfl rfl rfl ?_
  refine DL.pu 32 (.int .i64 (y_1610.length : Int)) rfl (p_slLen ty_u22 (OwnS.sl ho_y_1610) rfl rfl) ?_
  refine DL.pu 33 (.bool (decide (x7_1612 < (y_1610.length : Int)))) rfl (p_lss rfl rfl rfl) ?_
  refine DL.nil ?_
  by_cases c2353 : (decide (x7_1612 < (y_1610.length : Int))) = true
  ·
   have h2354:=ite_true c2353 h
   refine TT.cond_true (x:=sub [1,1,1,0,1,0,0,1,0,1,1,0,0,0,1,0] B25) (y:=sub [1,1,1,0,1,0,0,1,0,1,1,0,0,0,1,1] B25) rfl c2353 ?_
   refine TT.skip ?_
   refine TT.seq (x:=sub [1,1,1,0,1,0,0,1,0,1,1,0,0,1,0] B25) (y:=sub [1,1,1,0,1,0,0,1,0,1,1,0,0,1,1] B25) ?_
   refine TT.block (c:=sub [1,1,1,0,1,0,0,1,0,1,1,0,0,1,0,0] B25) ?_
   refine TT.seq (x:=sub [1,1,1,0,1,0,0,1,0,1,1,0,0,1,0,0,0] B25) (y:=sub [1,1,1,0,1,0,0,1,0,1,1,0,0,1,0,0,1] B25) ?_
   refine TT.rg [0] [kp] rfl rfl ?_
   refine DL.pu 8 (.slice none 0 0) rfl (p_assign rfl rfl) ?_
   refine DL.nil ?_
   refine TT.seq (x:=sub [1,1,1,0,1,0,0,1,0,1,1,0,0,1,0,0,1,0] B25) (y:=sub [1,1,1,0,1,0,0,1,0,1,1,0,0,1,0,0,1,1] B25) ?_
   refine TT.seq (x:=sub [1,1,1,0,1,0,0,1,0,1,1,0,0,1,0,0,1,0,0] B25) (y:=sub [1,1,1,0,1,0,0,1,0,1,1,0,0,1,0,0,1,0,1] B25) ?_
   refine TT.rg [0,1,2,3,4] [kp,kp,kp,kp,kq] rfl rfl ?_
   refine DL.mv 36 (y_1610_v) rfl rfl rfl ?_
   refine DL.mv 37 (.int .i64 x7_1612) rfl rfl rfl ?_
   obtain ⟨g2355,h2356⟩:=req_some h2354
   obtain ⟨g2357,h2358⟩:=req_some h2356
   refine DL.pu 38 (elp y_1610_v (x7_1612.toNat * 3)) rfl (p_slIx ty_u22 ty_s25 (OwnS.some ho_y_1610 g2355 g2357) g2355 g2357 rfl rfl rfl) ?_
   refine DL.pu 39 (elp y_1610_v (x7_1612.toNat * 3)) rfl (p_fieldAddrE (j:=x7_1612.toNat * 3) (OwnS.some ho_y_1610 g2355 g2357) ty_f25_0 rfl rfl) ?_
   obtain ⟨t2360,e2361,h2362⟩:=nm_some h2358
   obtain ⟨cs2359,hc2359,hl2359⟩:=id (ho_y_1610)
   have q2359:=hl2359 _ _ (getD_some Tm.dflt (lt_len g2355 g2357)); rw [← e2361] at q2359
   obtain ⟨t2360_2,hq2359,hr_t2360_2⟩:=Tm.op q2359
   refine DL.qu 40 (.int .i64 (Tm.kind t2360)) rfl (f_loadEl (i:=0) rfl hc2359 (show cs2359[x7_1612.toNat * 3 + 0]? = _ from chunk_get (n:=ShTm.n) (by rw [hq2359]; rfl)) ty_a23 rfl rfl) ?_
   refine DL.nil ?_
   refine TT.block (c:=sub [1,1,1,0,1,0,0,1,0,1,1,0,0,1,0,0,1,0,1,0] B25) ?_
   refine TT.seq (x:=sub [1,1,1,0,1,0,0,1,0,1,1,0,0,1,0,0,1,0,1,0,0] B25) (y:=sub [1,1,1,0,1,0,0,1,0,1,1,0,0,1,0,0,1,0,1,0,1] B25) ?_
   refine TT.rg [0,1] [kp,kp] rfl rfl ?_
   refine DL.pu 42 (.bool ((Tm.kind t2360) == 7)) rfl (p_eql rfl rfl rfl) ?_
   refine DL.pu 41 (.bool ((Tm.kind t2360) == 7)) rfl (p_assign rfl rfl) ?_
   refine DL.nil ?_
   by_cases c2363 : ((Tm.kind t2360) == 7) = true
   ·
    have h2364:=ite_true c2363 h2362
    refine TT.cond_true (x:=sub [1,1,1,0,1,0,0,1,0,1,1,0,0,1,0,0,1,0,1,0,1,0] B25) (y:=sub [1,1,1,0,1,0,0,1,0,1,1,0,0,1,0,0,1,0,1,0,1,1] B25) rfl c2363 ?_
    refine TT.rg [0,1,2,3,4,5] [kp,kp,kp,kp,kq,kp] rfl rfl ?_
    refine DL.mv 43 (y_1610_v) rfl rfl rfl ?_
    refine DL.mv 44 (.int .i64 x7_1612) rfl rfl rfl ?_
    refine DL.pu 45 (elp y_1610_v (x7_1612.toNat * 3)) rfl (p_slIx ty_u22 ty_s25 (OwnS.some ho_y_1610 g2355 g2357) g2355 g2357 rfl rfl rfl) ?_
    refine DL.pu 46 (elp y_1610_v (x7_1612.toNat * 3 + 2)) rfl (p_fieldAddrE (j:=x7_1612.toNat * 3) (OwnS.some ho_y_1610 g2355 g2357) ty_f25_2 rfl rfl) ?_
    obtain ⟨t2366,e2367,h2368⟩:=nm_some h2364
    obtain ⟨cs2365,hc2365,hl2365⟩:=id (ho_y_1610)
    have q2365:=hl2365 _ _ (getD_some Tm.dflt (lt_len g2355 g2357)); rw [← e2367] at q2365
    obtain ⟨t2366_2,hq2365,hr_t2366_2⟩:=Tm.op q2365
    refine DL.qu 47 (t2366_2) rfl (f_loadEl (i:=0) rfl hc2365 (show cs2365[x7_1612.toNat * 3 + 2]? = _ from chunk_get (n:=ShTm.n) (by rw [hq2365]; rfl)) ty_a22 rfl rfl) ?_
    refine DL.pu 8 (t2366_2) rfl (p_assign rfl rfl) ?_
    refine DL.nil ?_
    refine TT.inBlock ?_
    refine TT.seq (x:=sub [1,1,1,0,1,0,0,1,0,1,1,0,0,1,0,0,1,1,0] B25) (y:=sub [1,1,1,0,1,0,0,1,0,1,1,0,0,1,0,0,1,1,1] B25) ?_
    refine TT.rg [0] [kp] rfl rfl ?_
    refine DL.pu 9 (.int .i64 0) rfl (p_assign rfl rfl) ?_
    refine DL.nil ?_
    refine TT.block (c:=sub [1,1,1,0,1,0,0,1,0,1,1,0,0,1,0,0,1,1,1,0] B25) ?_
    refine TT.loop (c:=sub [1,1,1,0,1,0,0,1,0,1,1,0,0,1,0,0,1,1,1,0,0] B25) ?_
    obtain ⟨⟨z_o1_2457,z6_2458⟩,h2494,h2495⟩:=bind_some h2368
    refine TT.weak (ref29_Learn.L3_ok x7_1612 t2366 t2366_2 hE hr_t2366_2 100000 y_1610 x6_1611 0 y_1610_v y_1610_c z_o1_2457 z6_2458 ho_y_1610 h2494 (fun z_o1_2457_v z_o1_2457_c ho_z_o1_2457 => ?_)) (Sub.cons rfl (Sub.cons rfl (Sub.cons rfl (Sub.cons rfl (Sub.cons rfl (Sub.nil _))))))
    refine TT.inBlock ?_
    refine TT.rg [0,1,2] [kp,kp,kp] rfl rfl ?_
    refine DL.mv 34 (.int .i64 x7_1612) rfl rfl rfl ?_
    refine DL.pu 35 (.int .i64 (IntKind.i64.wrap (x7_1612 + 1))) rfl (p_add rfl rfl rfl) ?_
    refine DL.pu 7 (.int .i64 (IntKind.i64.wrap (x7_1612 + 1))) rfl (p_assign rfl rfl) ?_
    refine DL.nil ?_
    refine TT.inLoop ?_
    exact TT.weak (ih z_o1_2457 z6_2458 (IntKind.i64.wrap (x7_1612 + 1)) z_o1_2457_v z_o1_2457_c r0_ r1_ ho_z_o1_2457 h2495 hk) (Sub.cons rfl (Sub.cons rfl (Sub.cons rfl (Sub.nil _))))
   ·
    replace c2363:=Bool.eq_false_iff.mpr c2363
    have h2497:=ite_false c2363 h2362
    refine TT.cond_false (x:=sub [1,1,1,0,1,0,0,1,0,1,1,0,0,1,0,0,1,0,1,0,1,0] B25) (y:=sub [1,1,1,0,1,0,0,1,0,1,1,0,0,1,0,0,1,0,1,0,1,1] B25) rfl c2363 ?_
    refine TT.seq (x:=sub [1,1,1,0,1,0,0,1,0,1,1,0,0,1,0,0,1,0,1,0,1,1,0] B25) (y:=sub [1,1,1,0,1,0,0,1,0,1,1,0,0,1,0,0,1,0,1,0,1,1,1] B25) ?_
    refine TT.rg [0,1] [kp,kp] rfl rfl ?_
    refine DL.pu 49 (.bool ((Tm.kind t2360) == 5)) rfl (p_eql rfl rfl rfl) ?_
    refine DL.pu 48 (.bool ((Tm.kind t2360) == 5)) rfl (p_assign rfl rfl) ?_
    refine DL.nil ?_
    by_cases c2498 : ((Tm.kind t2360) == 5) = true
    ·
     have h2499:=ite_true c2498 h2497
     refine TT.cond_true (x:=sub [1,1,1,0,1,0,0,1,0,1,1,0,0,1,0,0,1,0,1,0,1,1,1,0] B25) (y:=sub [1,1,1,0,1,0,0,1,0,1,1,0,0,1,0,0,1,0,1,0,1,1,1,1] B25) rfl c2498 ?_
     refine TT.rg [0,1,2,3,4,5,6] [kp,kp,kp,kp,kq,kp,kp] rfl rfl ?_
     refine DL.mv 50 (y_1610_v) rfl rfl rfl ?_
     refine DL.mv 51 (.int .i64 x7_1612) rfl rfl rfl ?_
     refine DL.pu 52 (elp y_1610_v (x7_1612.toNat * 3)) rfl (p_slIx ty_u22 ty_s25 (OwnS.some ho_y_1610 g2355 g2357) g2355 g2357 rfl rfl rfl) ?_
     refine DL.pu 53 (elp y_1610_v (x7_1612.toNat * 3 + 2)) rfl (p_fieldAddrE (j:=x7_1612.toNat * 3) (OwnS.some ho_y_1610 g2355 g2357) ty_f25_2 rfl rfl) ?_
     obtain ⟨t2501,e2502,h2503⟩:=nm_some h2499
     obtain ⟨cs2500,hc2500,hl2500⟩:=id (ho_y_1610)
     have q2500:=hl2500 _ _ (getD_some Tm.dflt (lt_len g2355 g2357)); rw [← e2502] at q2500
     obtain ⟨t2501_2,hq2500,hr_t2501_2⟩:=Tm.op q2500
     refine DL.qu 54 (t2501_2) rfl (f_loadEl (i:=0) rfl hc2500 (show cs2500[x7_1612.toNat * 3 + 2]? = _ from chunk_get (n:=ShTm.n) (by rw [hq2500]; rfl)) ty_a22 rfl rfl) ?_
     obtain ⟨g2505,h2506⟩:=req_some h2503
     obtain ⟨v2504,v2504_e⟩ : ∃ u,u = subsl t2501_2 3 (1 : Int).toNat (Tree.kids t2501).length:=⟨_,rfl⟩
     have hr_v2504 : RowS ShTm M v2504 ((Tree.kids t2501).drop (1 : Int).toNat):=by rw [v2504_e]; exact (RowS.subL hr_t2501_2 (toNat_le g2505))
     refine DL.pu 55 (v2504) rfl (by rw [v2504_e]; exact p_subL ty_u22 ty_s25 (RowS.V hr_t2501_2).choose_spec (by decide) g2505 rfl rfl rfl) ?_
     refine DL.pu 8 (v2504) rfl (p_assign rfl rfl) ?_
     refine DL.nil ?_
     refine TT.inBlock ?_
     refine TT.seq (x:=sub [1,1,1,0,1,0,0,1,0,1,1,0,0,1,0,0,1,1,0] B25) (y:=sub [1,1,1,0,1,0,0,1,0,1,1,0,0,1,0,0,1,1,1] B25) ?_
     refine TT.rg [0] [kp] rfl rfl ?_
     refine DL.pu 9 (.int .i64 0) rfl (p_assign rfl rfl) ?_
     refine DL.nil ?_
     refine TT.block (c:=sub [1,1,1,0,1,0,0,1,0,1,1,0,0,1,0,0,1,1,1,0] B25) ?_
     refine TT.loop (c:=sub [1,1,1,0,1,0,0,1,0,1,1,0,0,1,0,0,1,1,1,0,0] B25) ?_
     obtain ⟨⟨z_o1_2595,z6_2596⟩,h2632,h2633⟩:=bind_some h2506
     refine TT.weak (ref29_Learn.L4_ok x7_1612 t2501 v2504 hE hr_v2504 ((((Tree.kids t2501).drop (1 : Int).toNat).length : Int).toNat + 1) y_1610 x6_1611 0 y_1610_v y_1610_c z_o1_2595 z6_2596 ho_y_1610 h2632 (fun z_o1_2595_v z_o1_2595_c ho_z_o1_2595 => ?_)) (Sub.cons rfl (Sub.cons rfl (Sub.cons rfl (Sub.cons rfl (Sub.cons rfl (Sub.nil _))))))
     refine TT.inBlock ?_
     refine TT.rg [0,1,2] [kp,kp,kp] rfl rfl ?_
     refine DL.mv 34 (.int .i64 x7_1612) rfl rfl rfl ?_
     refine DL.pu 35 (.int .i64 (IntKind.i64.wrap (x7_1612 + 1))) rfl (p_add rfl rfl rfl) ?_
     refine DL.pu 7 (.int .i64 (IntKind.i64.wrap (x7_1612 + 1))) rfl (p_assign rfl rfl) ?_
     refine DL.nil ?_
     refine TT.inLoop ?_
     exact TT.weak (ih z_o1_2595 z6_2596 (IntKind.i64.wrap (x7_1612 + 1)) z_o1_2595_v z_o1_2595_c r0_ r1_ ho_z_o1_2595 h2633 hk) (Sub.cons rfl (Sub.cons rfl (Sub.cons rfl (Sub.nil _))))
    ·
     replace c2498:=Bool.eq_false_iff.mpr c2498
     have h2635:=ite_false c2498 h2497
     refine TT.cond_false (x:=sub [1,1,1,0,1,0,0,1,0,1,1,0,0,1,0,0,1,0,1,0,1,1,1,0] B25) (y:=sub [1,1,1,0,1,0,0,1,0,1,1,0,0,1,0,0,1,0,1,0,1,1,1,1] B25) rfl c2498 ?_
     refine TT.seq (x:=sub [1,1,1,0,1,0,0,1,0,1,1,0,0,1,0,0,1,0,1,0,1,1,1,1,0] B25) (y:=sub [1,1,1,0,1,0,0,1,0,1,1,0,0,1,0,0,1,0,1,0,1,1,1,1,1] B25) ?_
     refine TT.rg [0,1] [kp,kp] rfl rfl ?_
     refine DL.pu 57 (.bool ((Tm.kind t2360) == 4)) rfl (p_eql rfl rfl rfl) ?_
     refine DL.pu 56 (.bool ((Tm.kind t2360) == 4)) rfl (p_assign rfl rfl) ?_
     refine DL.nil ?_
     by_cases c2636 : ((Tm.kind t2360) == 4) = true
     ·
      have h2637:=ite_true c2636 h2635
      refine TT.cond_true (x:=sub [1,1,1,0,1,0,0,1,0,1,1,0,0,1,0,0,1,0,1,0,1,1,1,1,1,0] B25) (y:=sub [1,1,1,0,1,0,0,1,0,1,1,0,0,1,0,0,1,0,1,0,1,1,1,1,1,1] B25) rfl c2636 ?_
      refine TT.seq (x:=sub [1,1,1,0,1,0,0,1,0,1,1,0,0,1,0,0,1,0,1,0,1,1,1,1,1,0,0] B25) (y:=sub [1,1,1,0,1,0,0,1,0,1,1,0,0,1,0,0,1,0,1,0,1,1,1,1,1,0,1] B25) ?_
      refine TT.rg [0,1,2,3,4,5,6,7,8] [kp,kp,kp,kp,kq,kp,kq,kp,kq] rfl rfl ?_
      refine DL.mv 58 (y_1610_v) rfl rfl rfl ?_
      refine DL.mv 59 (.int .i64 x7_1612) rfl rfl rfl ?_
      refine DL.pu 60 (elp y_1610_v (x7_1612.toNat * 3)) rfl (p_slIx ty_u22 ty_s25 (OwnS.some ho_y_1610 g2355 g2357) g2355 g2357 rfl rfl rfl) ?_
      refine DL.pu 61 (elp y_1610_v (x7_1612.toNat * 3 + 2)) rfl (p_fieldAddrE (j:=x7_1612.toNat * 3) (OwnS.some ho_y_1610 g2355 g2357) ty_f25_2 rfl rfl) ?_
      obtain ⟨t2639,e2640,h2641⟩:=nm_some h2637
      obtain ⟨cs2638,hc2638,hl2638⟩:=id (ho_y_1610)
      have q2638:=hl2638 _ _ (getD_some Tm.dflt (lt_len g2355 g2357)); rw [← e2640] at q2638
      obtain ⟨t2639_2,hq2638,hr_t2639_2⟩:=Tm.op q2638
      refine DL.qu 62 (t2639_2) rfl (f_loadEl (i:=0) rfl hc2638 (show cs2638[x7_1612.toNat * 3 + 2]? = _ from chunk_get (n:=ShTm.n) (by rw [hq2638]; rfl)) ty_a22 rfl rfl) ?_
      obtain ⟨g2642,h2643⟩:=req_some h2641
      refine DL.pu 63 (elp t2639_2 (((0 : Int).toNat) * 3)) rfl (p_slIx ty_u22 ty_s25 (RowS.some hr_t2639_2 (by decide) g2642) (by decide) g2642 rfl rfl rfl) ?_
      obtain ⟨t2645,e2646,h2647⟩:=nm_some h2643
      obtain ⟨cs2644,hc2644,hl2644⟩:=id (hr_t2639_2)
      have q2644:=hl2644 _ _ (getD_some Tm.dflt (lt_len (by decide) g2642)); rw [← e2646] at q2644
      obtain ⟨t2645_2,hq2644,hr_t2645_2⟩:=Tm.op q2644
      refine DL.qu 64 (.agg (Tm.ce t2645 t2645_2)) rfl (q_loadElA (fun w hc => hE.imm hc) hc2644 hq2644 (lt_len (by decide) g2642) ty_a25 ty_s25 rfl rfl) ?_
      refine DL.mv 65 (y_1610_v) rfl rfl rfl ?_
      obtain ⟨t2648,h2649,h2650⟩:=bind_some h2647
      refine DL.qu 66 (.bool t2648) rfl (f_callR rfl rfl (args_val (vs:=[.agg (Tm.ce t2645 t2645_2),y_1610_v]) rfl) (fun w => enter45 _ w) (fun w hc => ref29_made.val h2649 (M:=heapOf w) w (Ext.refl _) (RowS.mono hr_t2645_2 (hE.ext hc)) (OwnS.row ho_y_1610 (hE.ext hc) hc (i:=0) rfl))) ?_
      refine DL.nil ?_
      by_cases c2651 : t2648 = true
      ·
       have h2652:=ite_true c2651 h2650
       refine TT.cond_true (x:=sub [1,1,1,0,1,0,0,1,0,1,1,0,0,1,0,0,1,0,1,0,1,1,1,1,1,0,1,0] B25) (y:=sub [1,1,1,0,1,0,0,1,0,1,1,0,0,1,0,0,1,0,1,0,1,1,1,1,1,0,1,1] B25) rfl c2651 ?_
       refine TT.rg [0,1,2,3,4,5,6] [kp,kp,kp,kp,kq,kp,kp] rfl rfl ?_
       refine DL.mv 67 (y_1610_v) rfl rfl rfl ?_
       refine DL.mv 68 (.int .i64 x7_1612) rfl rfl rfl ?_
       refine DL.pu 69 (elp y_1610_v (x7_1612.toNat * 3)) rfl (p_slIx ty_u22 ty_s25 (OwnS.some ho_y_1610 g2355 g2357) g2355 g2357 rfl rfl rfl) ?_
       refine DL.pu 70 (elp y_1610_v (x7_1612.toNat * 3 + 2)) rfl (p_fieldAddrE (j:=x7_1612.toNat * 3) (OwnS.some ho_y_1610 g2355 g2357) ty_f25_2 rfl rfl) ?_
       obtain ⟨t2654,e2655,h2656⟩:=nm_some h2652
       obtain ⟨cs2653,hc2653,hl2653⟩:=id (ho_y_1610)
       have q2653:=hl2653 _ _ (getD_some Tm.dflt (lt_len g2355 g2357)); rw [← e2655] at q2653
       obtain ⟨t2654_2,hq2653,hr_t2654_2⟩:=Tm.op q2653
       refine DL.qu 71 (t2654_2) rfl (f_loadEl (i:=0) rfl hc2653 (show cs2653[x7_1612.toNat * 3 + 2]? = _ from chunk_get (n:=ShTm.n) (by rw [hq2653]; rfl)) ty_a22 rfl rfl) ?_
       obtain ⟨g2658,h2659⟩:=req_some h2656
       obtain ⟨v2657,v2657_e⟩ : ∃ u,u = subsl t2654_2 3 (1 : Int).toNat (Tree.kids t2654).length:=⟨_,rfl⟩
       have hr_v2657 : RowS ShTm M v2657 ((Tree.kids t2654).drop (1 : Int).toNat):=by rw [v2657_e]; exact (RowS.subL hr_t2654_2 (toNat_le g2658))
       refine DL.pu 72 (v2657) rfl (by rw [v2657_e]; exact p_subL ty_u22 ty_s25 (RowS.V hr_t2654_2).choose_spec (by decide) g2658 rfl rfl rfl) ?_
       refine DL.pu 8 (v2657) rfl (p_assign rfl rfl) ?_
       refine DL.nil ?_
       refine TT.inBlock ?_
       refine TT.seq (x:=sub [1,1,1,0,1,0,0,1,0,1,1,0,0,1,0,0,1,1,0] B25) (y:=sub [1,1,1,0,1,0,0,1,0,1,1,0,0,1,0,0,1,1,1] B25) ?_
       refine TT.rg [0] [kp] rfl rfl ?_
       refine DL.pu 9 (.int .i64 0) rfl (p_assign rfl rfl) ?_
       refine DL.nil ?_
       refine TT.block (c:=sub [1,1,1,0,1,0,0,1,0,1,1,0,0,1,0,0,1,1,1,0] B25) ?_
       refine TT.loop (c:=sub [1,1,1,0,1,0,0,1,0,1,1,0,0,1,0,0,1,1,1,0,0] B25) ?_
       obtain ⟨⟨z_o1_2748,z6_2749⟩,h2785,h2786⟩:=bind_some h2659
       refine TT.weak (ref29_Learn.L5_ok x7_1612 t2654 v2657 hE hr_v2657 ((((Tree.kids t2654).drop (1 : Int).toNat).length : Int).toNat + 1) y_1610 x6_1611 0 y_1610_v y_1610_c z_o1_2748 z6_2749 ho_y_1610 h2785 (fun z_o1_2748_v z_o1_2748_c ho_z_o1_2748 => ?_)) (Sub.cons rfl (Sub.cons rfl (Sub.cons rfl (Sub.cons rfl (Sub.cons rfl (Sub.nil _))))))
       refine TT.inBlock ?_
       refine TT.rg [0,1,2] [kp,kp,kp] rfl rfl ?_
       refine DL.mv 34 (.int .i64 x7_1612) rfl rfl rfl ?_
       refine DL.pu 35 (.int .i64 (IntKind.i64.wrap (x7_1612 + 1))) rfl (p_add rfl rfl rfl) ?_
       refine DL.pu 7 (.int .i64 (IntKind.i64.wrap (x7_1612 + 1))) rfl (p_assign rfl rfl) ?_
       refine DL.nil ?_
       refine TT.inLoop ?_
       exact TT.weak (ih z_o1_2748 z6_2749 (IntKind.i64.wrap (x7_1612 + 1)) z_o1_2748_v z_o1_2748_c r0_ r1_ ho_z_o1_2748 h2786 hk) (Sub.cons rfl (Sub.cons rfl (Sub.cons rfl (Sub.nil _))))
      ·
       replace c2651:=Bool.eq_false_iff.mpr c2651
       have h2788:=ite_false c2651 h2650
       refine TT.cond_false (x:=sub [1,1,1,0,1,0,0,1,0,1,1,0,0,1,0,0,1,0,1,0,1,1,1,1,1,0,1,0] B25) (y:=sub [1,1,1,0,1,0,0,1,0,1,1,0,0,1,0,0,1,0,1,0,1,1,1,1,1,0,1,1] B25) rfl c2651 ?_
       refine TT.skip ?_
       refine TT.inBlock ?_
       refine TT.seq (x:=sub [1,1,1,0,1,0,0,1,0,1,1,0,0,1,0,0,1,1,0] B25) (y:=sub [1,1,1,0,1,0,0,1,0,1,1,0,0,1,0,0,1,1,1] B25) ?_
       refine TT.rg [0] [kp] rfl rfl ?_
       refine DL.pu 9 (.int .i64 0) rfl (p_assign rfl rfl) ?_
       refine DL.nil ?_
       refine TT.block (c:=sub [1,1,1,0,1,0,0,1,0,1,1,0,0,1,0,0,1,1,1,0] B25) ?_
       refine TT.loop (c:=sub [1,1,1,0,1,0,0,1,0,1,1,0,0,1,0,0,1,1,1,0,0] B25) ?_
       obtain ⟨⟨z_o1_2874,z6_2875⟩,h2911,h2912⟩:=bind_some h2788
       refine TT.weak (ref29_Learn.L6_ok x7_1612 hE ((0 : Int).toNat + 1) y_1610 x6_1611 0 y_1610_v y_1610_c z_o1_2874 z6_2875 ho_y_1610 h2911 (fun z_o1_2874_v z_o1_2874_c ho_z_o1_2874 => ?_)) (Sub.cons rfl (Sub.cons rfl (Sub.cons rfl (Sub.cons rfl (Sub.cons rfl (Sub.nil _))))))
       refine TT.inBlock ?_
       refine TT.rg [0,1,2] [kp,kp,kp] rfl rfl ?_
       refine DL.mv 34 (.int .i64 x7_1612) rfl rfl rfl ?_
       refine DL.pu 35 (.int .i64 (IntKind.i64.wrap (x7_1612 + 1))) rfl (p_add rfl rfl rfl) ?_
       refine DL.pu 7 (.int .i64 (IntKind.i64.wrap (x7_1612 + 1))) rfl (p_assign rfl rfl) ?_
       refine DL.nil ?_
       refine TT.inLoop ?_
       exact TT.weak (ih z_o1_2874 z6_2875 (IntKind.i64.wrap (x7_1612 + 1)) z_o1_2874_v z_o1_2874_c r0_ r1_ ho_z_o1_2874 h2912 hk) (Sub.cons rfl (Sub.cons rfl (Sub.cons rfl (Sub.nil _))))
     ·
      replace c2636:=Bool.eq_false_iff.mpr c2636
      have h2914:=ite_false c2636 h2635
      refine TT.cond_false (x:=sub [1,1,1,0,1,0,0,1,0,1,1,0,0,1,0,0,1,0,1,0,1,1,1,1,1,0] B25) (y:=sub [1,1,1,0,1,0,0,1,0,1,1,0,0,1,0,0,1,0,1,0,1,1,1,1,1,1] B25) rfl c2636 ?_
      refine TT.skip ?_
      refine TT.inBlock ?_
      refine TT.seq (x:=sub [1,1,1,0,1,0,0,1,0,1,1,0,0,1,0,0,1,1,0] B25) (y:=sub [1,1,1,0,1,0,0,1,0,1,1,0,0,1,0,0,1,1,1] B25) ?_
      refine TT.rg [0] [kp] rfl rfl ?_
      refine DL.pu 9 (.int .i64 0) rfl (p_assign rfl rfl) ?_
      refine DL.nil ?_
      refine TT.block (c:=sub [1,1,1,0,1,0,0,1,0,1,1,0,0,1,0,0,1,1,1,0] B25) ?_
      refine TT.loop (c:=sub [1,1,1,0,1,0,0,1,0,1,1,0,0,1,0,0,1,1,1,0,0] B25) ?_
      obtain ⟨⟨z_o1_3000,z6_3001⟩,h3037,h3038⟩:=bind_some h2914
      refine TT.weak (ref29_Learn.L7_ok x7_1612 hE ((0 : Int).toNat + 1) y_1610 x6_1611 0 y_1610_v y_1610_c z_o1_3000 z6_3001 ho_y_1610 h3037 (fun z_o1_3000_v z_o1_3000_c ho_z_o1_3000 => ?_)) (Sub.cons rfl (Sub.cons rfl (Sub.cons rfl (Sub.cons rfl (Sub.cons rfl (Sub.nil _))))))
      refine TT.inBlock ?_
      refine TT.rg [0,1,2] [kp,kp,kp] rfl rfl ?_
      refine DL.mv 34 (.int .i64 x7_1612) rfl rfl rfl ?_
      refine DL.pu 35 (.int .i64 (IntKind.i64.wrap (x7_1612 + 1))) rfl (p_add rfl rfl rfl) ?_
      refine DL.pu 7 (.int .i64 (IntKind.i64.wrap (x7_1612 + 1))) rfl (p_assign rfl rfl) ?_
      refine DL.nil ?_
      refine TT.inLoop ?_
      exact TT.weak (ih z_o1_3000 z6_3001 (IntKind.i64.wrap (x7_1612 + 1)) z_o1_3000_v z_o1_3000_c r0_ r1_ ho_z_o1_3000 h3038 hk) (Sub.cons rfl (Sub.cons rfl (Sub.cons rfl (Sub.nil _))))
  ·
   replace c2353:=Bool.eq_false_iff.mpr c2353
   have h3040:=ite_false c2353 h
   refine TT.cond_false (x:=sub [1,1,1,0,1,0,0,1,0,1,1,0,0,0,1,0] B25) (y:=sub [1,1,1,0,1,0,0,1,0,1,1,0,0,0,1,1] B25) rfl c2353 ?_
   refine TT.exit rfl ?_
   simp only [Option.some.injEq,Prod.mk.injEq] at h3040
   obtain ⟨rfl,rfl⟩:=h3040
   exact TT.weak (hk y_1610_v y_1610_c ho_y_1610) (Sub.cons rfl (Sub.cons rfl (Sub.nil _)))

def ref29_Learn.L1 : Nat → (List Tm) → Bool → Option (List Tm)
 | 0,_,_ => none
 | k + 1,y_124,x6_125 => if x6_125 = true then ((ref29_Learn.L2 100000 y_124 false 0).bind fun (z_o1_2351,z6_2352) => ref29_Learn.L1 k z_o1_2351 z6_2352) else (some y_124)
set_option maxRecDepth 20000 in
theorem ref29_Learn.L1_ok {R : Ending → World → Prop} {w0 : World} {M0 M I : Mem} {K : List Item} (hE : Env w0 M0 M I) :
  ∀ (k : Nat) (y_124 : List Tm) (x6_125 : Bool) (y_124_v : Value) (y_124_c : Array Value) (r0_ : List Tm) (ho_y_124 : OwnS ShTm M y_124_v y_124_c y_124) (h : ref29_Learn.L1 k y_124 x6_125 = some r0_) (hk : ∀ (z_o1_1607_v : Value),∀ (z_o1_1607_c : Array Value),OwnS ShTm M z_o1_1607_v z_o1_1607_c r0_ → TT Tryd.prog 25 R 94 w0 I K [(3,z_o1_1607_v)] [(Value.ownBlock z_o1_1607_v,.cells z_o1_1607_c 25 (0,0))]),
   TT Tryd.prog 25 R 94 w0 I (.code (sub [1,1,1,0,1,0,0] B25) :: .inLoop (sub [1,1,1,0,1,0,0] B25) :: .inBlock 2 :: K) [(3,y_124_v),(6,.bool x6_125)] [(Value.ownBlock y_124_v,.cells y_124_c 25 (0,0))]:=by
 intro k
 induction k with
 | zero => intro y_124 x6_125 y_124_v y_124_c r0_ ho_y_124 h; simp [ref29_Learn.L1] at h
 | succ k ih =>
  intro y_124 x6_125 y_124_v y_124_c r0_ ho_y_124 h hk
  unfold ref29_Learn.L1 at h
  refine TT.seq (x:=sub [1,1,1,0,1,0,0,0] B25) (y:=sub [1,1,1,0,1,0,0,1] B25) ?_
  refine TT.seq (x:=sub [1,1,1,0,1,0,0,0,0] B25) (y:=sub [1,1,1,0,1,0,0,0,1] B25) ?_
  refine TT.rg [0] [kp] rfl rfl ?_
  refine DL.mv 29 (.bool x6_125) rfl rfl rfl ?_
  refine DL.nil ?_
  by_cases c1608 : x6_125 = true
  ·
   have h1609:=ite_true c1608 h
   refine TT.cond_true (x:=sub [1,1,1,0,1,0,0,0,1,0] B25) (y:=sub [1,1,1,0,1,0,0,0,1,1] B25) rfl c1608 ?_
   refine TT.skip ?_
   refine TT.block (c:=sub [1,1,1,0,1,0,0,1,0] B25) ?_
   refine TT.seq (x:=sub [1,1,1,0,1,0,0,1,0,0] B25) (y:=sub [1,1,1,0,1,0,0,1,0,1] B25) ?_
   refine TT.rg [0] [kp] rfl rfl ?_
   refine DL.pu 6 (.bool false) rfl (p_assign rfl rfl) ?_
   refine DL.nil ?_
   refine TT.seq (x:=sub [1,1,1,0,1,0,0,1,0,1,0] B25) (y:=sub [1,1,1,0,1,0,0,1,0,1,1] B25) ?_
   refine TT.rg [0] [kp] rfl rfl ?_
   refine DL.pu 7 (.int .i64 0) rfl (p_assign rfl rfl) ?_
   refine DL.nil ?_
   refine TT.block (c:=sub [1,1,1,0,1,0,0,1,0,1,1,0] B25) ?_
   refine TT.loop (c:=sub [1,1,1,0,1,0,0,1,0,1,1,0,0] B25) ?_
   obtain ⟨⟨z_o1_2351,z6_2352⟩,h3041,h3042⟩:=bind_some h1609
   refine TT.weak (ref29_Learn.L2_ok hE 100000 y_124 false 0 y_124_v y_124_c z_o1_2351 z6_2352 ho_y_124 h3041 (fun z_o1_2351_v z_o1_2351_c ho_z_o1_2351 => ?_)) (Sub.cons rfl (Sub.cons rfl (Sub.cons rfl (Sub.nil _))))
   refine TT.inBlock ?_
   refine TT.inLoop ?_
   exact TT.weak (ih z_o1_2351 z6_2352 z_o1_2351_v z_o1_2351_c r0_ ho_z_o1_2351 h3042 hk) (Sub.cons rfl (Sub.cons rfl (Sub.nil _)))
  ·
   replace c1608:=Bool.eq_false_iff.mpr c1608
   have h3044:=ite_false c1608 h
   refine TT.cond_false (x:=sub [1,1,1,0,1,0,0,0,1,0] B25) (y:=sub [1,1,1,0,1,0,0,0,1,1] B25) rfl c1608 ?_
   refine TT.exit rfl ?_
   obtain rfl:=Option.some.inj h3044
   exact TT.weak (hk y_124_v y_124_c ho_y_124) (Sub.cons rfl (Sub.nil _))

def ref29_Learn.f (a0 : List Tm) : Option ((List Tm)):=(ref29_Learn.L0 a0 ((a0.length : Int).toNat + 1) ([] : List Tm) 0).bind fun z_o1_87 => (ref29_Learn.L1 100000 z_o1_87 true).bind fun z_o1_1607 => some z_o1_1607
set_option maxRecDepth 20000 in
theorem ref29_Learn.ok {a0 : List Tm} {a0_v : Value} {r : List Tm} (h : ref29_Learn.f a0 = some r) {M : Mem} (w : World) (hM : Ext M (heapOf w)) (hG : Glob M) (hr_a0 : RowS ShTm M a0_v a0) : Calls Tryd.prog 25 #[a0_v] w (PostF (G:=Value) (fun g => g) (fun g M_ => (RowS ShTm M_ g r)) M w):=by
 unfold ref29_Learn.f at h
 have hE:=Env.start hM
 refine calls_of_TT (N:=94) (S:=[(0,a0_v)]) (c:=B25) Tryd.func25 rfl rfl rfl (by simp) ?_
 show TT _ _ _ _ _ _ [.code (sub [] B25)] _ _
 refine TT.seq (x:=sub [0] B25) (y:=sub [1] B25) ?_
 refine TT.rg [0] [kp] rfl rfl ?_
 refine DL.pu 2 (.slice none 0 0) rfl (p_assign rfl rfl) ?_
 refine DL.nil ?_
 refine TT.seq (x:=sub [1,0] B25) (y:=sub [1,1] B25) ?_
 refine TT.rg [0] [kp] rfl rfl ?_
 refine DL.pu 3 (.slice none 0 0) rfl (p_assign rfl rfl) ?_
 refine DL.nil ?_
 refine TT.seq (x:=sub [1,1,0] B25) (y:=sub [1,1,1] B25) ?_
 refine TT.seq (x:=sub [1,1,0,0] B25) (y:=sub [1,1,0,1] B25) ?_
 refine TT.rg [0] [kp] rfl rfl ?_
 refine DL.pu 4 (.int .i64 0) rfl (p_assign rfl rfl) ?_
 refine DL.nil ?_
 refine TT.block (c:=sub [1,1,0,1,0] B25) ?_
 refine TT.nilOwn (e:=25) ?_
 refine TT.loop (c:=sub [1,1,0,1,0,0] B25) ?_
 obtain ⟨z_o1_87,h121,h122⟩:=bind_some h
 refine TT.weak (ref29_Learn.L0_ok a0 a0_v hG hr_a0 ((a0.length : Int).toNat + 1) M (heapOf w) hE (Ext.refl _) ([] : List Tm) 0 (.slice none 0 0) (#[]) z_o1_87 (OwnS.nil ShTm M) h121 (fun M123 I123 hE123 hx123 z_o1_87_v z_o1_87_c ho_z_o1_87 => ?_)) (Sub.cons rfl (Sub.cons rfl (Sub.cons rfl (Sub.nil _))))
 refine TT.seq (x:=sub [1,1,1,0] B25) (y:=sub [1,1,1,1] B25) ?_
 refine TT.seq (x:=sub [1,1,1,0,0] B25) (y:=sub [1,1,1,0,1] B25) ?_
 refine TT.rg [0] [kp] rfl rfl ?_
 refine DL.pu 6 (.bool true) rfl (p_assign rfl rfl) ?_
 refine DL.nil ?_
 refine TT.block (c:=sub [1,1,1,0,1,0] B25) ?_
 refine TT.loop (c:=sub [1,1,1,0,1,0,0] B25) ?_
 obtain ⟨z_o1_1607,h3045,h3046⟩:=bind_some h122
 refine TT.weak (ref29_Learn.L1_ok hE123 100000 z_o1_87 true z_o1_87_v z_o1_87_c z_o1_1607 ho_z_o1_87 h3045 (fun z_o1_1607_v z_o1_1607_c ho_z_o1_1607 => ?_)) (Sub.cons rfl (Sub.cons rfl (Sub.nil _)))
 refine TT.seq (x:=sub [1,1,1,1,0] B25) (y:=sub [1,1,1,1,1] B25) ?_
 refine TT.rg [0,1] [kp,kp] rfl rfl ?_
 refine DL.mv 93 (z_o1_1607_v) rfl rfl rfl ?_
 refine DL.pu 2 (z_o1_1607_v) rfl (p_assign rfl rfl) ?_
 refine DL.nil ?_
 refine TT.freezeAt (j:=0) hE123 rfl ?_
 intro M3048 I3048 hE3048 hx3048 hxI3048 hb3048
 have hr_3048 : RowS ShTm M3048 z_o1_1607_v z_o1_1607:=OwnS.stays ho_z_o1_1607 hx3048 hb3048
 show TT _ _ _ _ _ _ _ _ []
 obtain rfl:=Option.some.inj h3046
 exact retF (rs:=[.tmp 2]) (vs:=[z_o1_1607_v]) z_o1_1607_v hE3048 Tryd.func25 rfl rfl rfl (res_cons (ResV.tmp rfl) res_nil) hr_3048

end Go.Proofs.YtfbogkhgfaibbaaDoor
