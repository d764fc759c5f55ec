import Derived.Test.YthldgjbmjgjogaaGreatDoorSa1
namespace Go.Proofs.YthldgjbmjgjogaaGreatDoor
open Go Go.HW Go.RowKit
set_option linter.unusedVariables false
set_option linter.unusedSimpArgs false

/-! ### escutcheon/script.commands: function 47 -/
noncomputable def B47 : Code:=bodyOf Tryz.f47
def script_commands.f : Option ((List (List UInt8))):=some ([zU,[109,97,107,101],[98,114,105,110,103],[105,110,102,111],[112,117,98,108,105,99],[115,105,103,110],[119,114,97,112],[117,110,119,114,97,112],[100,101,114,105,118,101],[101,120,112,111,114,116],[108,111,119,101,114],[100,101,115,116,114,111,121],[97,116,116,101,115,116],[99,101,114,116]] : List (List UInt8))
set_option maxRecDepth 20000 in
theorem script_commands.ok {r : List (List UInt8)} (h : script_commands.f = some r) {M : Mem} (w : World) (hM : Ext M (heapOf w)) : Calls Tryz.prog 47 #[] w (PostF (G:=Value) (fun g => g) (fun g M_ => (RowS Sh.str M_ g r)) M w):=by
 unfold script_commands.f at h
 have hE:=Env.start hM
 refine calls_of_TT (N:=2) (S:=[]) (c:=B47) Tryz.func47 rfl rfl rfl (by simp) ?_
 show TT _ _ _ _ _ _ [.code (sub [] B47)] _ _
 refine TT.sq rfl ?_
 refine TT.rg [0] [kp] rfl rfl ?_
 refine DL.pu 0 nS rfl (p_assign rfl rfl) ?_
 refine DL.nil ?_
 refine TT.sq rfl ?_
 refine TT.rg [0,1] [kA,kp] rfl rfl ?_
 refine DL.newS (M:=M) (s:=Sh.str) (zs:=([zU,[109,97,107,101],[98,114,105,110,103],[105,110,102,111],[112,117,98,108,105,99],[115,105,103,110],[119,114,97,112],[117,110,119,114,97,112],[100,101,114,105,118,101],[101,120,112,111,114,116],[108,111,119,101,114],[100,101,115,116,114,111,121],[97,116,116,101,115,116],[99,101,114,116]] : List (List UInt8))) (cells:=[str zU,str [109,97,107,101],str [98,114,105,110,103],str [105,110,102,111],str [112,117,98,108,105,99],str [115,105,103,110],str [119,114,97,112],str [117,110,119,114,97,112],str [100,101,114,105,118,101],str [101,120,112,111,114,116],str [108,111,119,101,114],str [100,101,115,116,114,111,121],str [97,116,116,101,115,116],str [99,101,114,116]]) (n:=14) rfl (by decide) rfl (fun i x hx => by match i,hx with | 0,hx => cases hx; exact rfl | 1,hx => cases hx; exact rfl | 2,hx => cases hx; exact rfl | 3,hx => cases hx; exact rfl | 4,hx => cases hx; exact rfl | 5,hx => cases hx; exact rfl | 6,hx => cases hx; exact rfl | 7,hx => cases hx; exact rfl | 8,hx => cases hx; exact rfl | 9,hx => cases hx; exact rfl | 10,hx => cases hx; exact rfl | 11,hx => cases hx; exact rfl | 12,hx => cases hx; exact rfl | 13,hx => cases hx; exact rfl | k + 14,hx => simp at hx) (i:=0) rfl (Wn.none rfl) rfl rfl rfl (f_buildS (n:=14) (vs:=[(0,str zU),(1,str [109,97,107,101]),(2,str [98,114,105,110,103]),(3,str [105,110,102,111]),(4,str [112,117,98,108,105,99]),(5,str [115,105,103,110]),(6,str [119,114,97,112]),(7,str [117,110,119,114,97,112]),(8,str [100,101,114,105,118,101]),(9,str [101,120,112,111,114,116]),(10,str [108,111,119,101,114]),(11,str [100,101,115,116,114,111,121]),(12,str [97,116,116,101,115,116]),(13,str [99,101,114,116])]) elem46 rfl rfl (by kernel_rfl) rfl (args_val2 rfl)) ?_
 intro s2_v s2_c ho_s2
 refine DL.pu 0 (s2_v) rfl (p_assign rfl rfl) ?_
 refine DL.nil ?_
 refine TT.freezeAt (j:=0) hE rfl ?_
 intro M3 I3 hE3 hx3 hxI3 hb3
 have hr_3 : RowS Sh.str M3 s2_v ([zU,[109,97,107,101],[98,114,105,110,103],[105,110,102,111],[112,117,98,108,105,99],[115,105,103,110],[119,114,97,112],[117,110,119,114,97,112],[100,101,114,105,118,101],[101,120,112,111,114,116],[108,111,119,101,114],[100,101,115,116,114,111,121],[97,116,116,101,115,116],[99,101,114,116]] : List (List UInt8)):=OwnS.stays ho_s2 hx3 hb3
 show TT _ _ _ _ _ _ _ _ []
 obtain rfl:=Option.some.inj h
 exact retF (rs:=[.tmp 0]) (vs:=[s2_v]) s2_v hE3 Tryz.func47 rfl rfl rfl (res_cons (ResV.tmp rfl) res_nil) hr_3

/-! ### escutcheon/script.types: function 50 -/
noncomputable def B50 : Code:=bodyOf Tryz.f50
def script_types.f : Option ((List (List UInt8))):=some ([zU,[115,105,103,110],[119,114,97,112],[100,101,114,105,118,101]] : List (List UInt8))
set_option maxRecDepth 20000 in
theorem script_types.ok {r : List (List UInt8)} (h : script_types.f = some r) {M : Mem} (w : World) (hM : Ext M (heapOf w)) : Calls Tryz.prog 50 #[] w (PostF (G:=Value) (fun g => g) (fun g M_ => (RowS Sh.str M_ g r)) M w):=by
 unfold script_types.f at h
 have hE:=Env.start hM
 refine calls_of_TT (N:=2) (S:=[]) (c:=B50) Tryz.func50 rfl rfl rfl (by simp) ?_
 show TT _ _ _ _ _ _ [.code (sub [] B50)] _ _
 refine TT.sq rfl ?_
 refine TT.rg [0] [kp] rfl rfl ?_
 refine DL.pu 0 nS rfl (p_assign rfl rfl) ?_
 refine DL.nil ?_
 refine TT.sq rfl ?_
 refine TT.rg [0,1] [kA,kp] rfl rfl ?_
 refine DL.newS (M:=M) (s:=Sh.str) (zs:=([zU,[115,105,103,110],[119,114,97,112],[100,101,114,105,118,101]] : List (List UInt8))) (cells:=[str zU,str [115,105,103,110],str [119,114,97,112],str [100,101,114,105,118,101]]) (n:=4) rfl (by decide) rfl (fun i x hx => by match i,hx with | 0,hx => cases hx; exact rfl | 1,hx => cases hx; exact rfl | 2,hx => cases hx; exact rfl | 3,hx => cases hx; exact rfl | k + 4,hx => simp at hx) (i:=0) rfl (Wn.none rfl) rfl rfl rfl (f_buildS (n:=4) (vs:=[(0,str zU),(1,str [115,105,103,110]),(2,str [119,114,97,112]),(3,str [100,101,114,105,118,101])]) elem46 rfl rfl (by kernel_rfl) rfl (args_val2 rfl)) ?_
 intro s2_v s2_c ho_s2
 refine DL.pu 0 (s2_v) rfl (p_assign rfl rfl) ?_
 refine DL.nil ?_
 refine TT.freezeAt (j:=0) hE rfl ?_
 intro M3 I3 hE3 hx3 hxI3 hb3
 have hr_3 : RowS Sh.str M3 s2_v ([zU,[115,105,103,110],[119,114,97,112],[100,101,114,105,118,101]] : List (List UInt8)):=OwnS.stays ho_s2 hx3 hb3
 show TT _ _ _ _ _ _ _ _ []
 obtain rfl:=Option.some.inj h
 exact retF (rs:=[.tmp 0]) (vs:=[s2_v]) s2_v hE3 Tryz.func50 rfl rfl rfl (res_cons (ResV.tmp rfl) res_nil) hr_3

/-! ### escutcheon/script.within: function 95 -/
noncomputable def B95 : Code:=bodyOf Tryz.f95
def script_within.f (a0 : Int) (a1 : Int) (a2 : Int) : Option (Bool):=(if (decide (a1 ≤ a0)) = true then (some (decide (a0 ≤ a2))) else (some false)).bind fun q2 => some q2
set_option maxRecDepth 20000 in
theorem script_within.ok {a0 : Int} {a1 : Int} {a2 : Int} {r : Bool} (h : script_within.f a0 a1 a2 = some r) {M : Mem} (w : World) (hM : Ext M (heapOf w)) : Calls Tryz.prog 95 #[.int .i64 a0,.int .i64 a1,.int .i64 a2] w (Post (fun u => u = .bool r) w):=by
 unfold script_within.f at h
 have hE:=Env.start hM
 refine calls_of_TT (N:=15) (S:=[(0,.int .i64 a0),(1,.int .i64 a1),(2,.int .i64 a2)]) (c:=B95) Tryz.func95 rfl rfl rfl (by simp) ?_
 show TT _ _ _ _ _ _ [.code (sub [] B95)] _ _
 refine TT.sq rfl ?_
 refine TT.rg [0] [kp] rfl rfl ?_
 refine DL.pu 6 (.bool false) rfl (p_assign rfl rfl) ?_
 refine DL.nil ?_
 refine TT.sq rfl ?_
 refine TT.rg [0,1,2,3,4,5,6,7,8] [kp,kp,kp,kp,kp,kp,kp,kp,kp] rfl rfl ?_
 refine DL.mv 7 (.int .i64 a0) rfl rfl rfl ?_
 refine DL.mv 8 (.int .i64 a1) rfl rfl rfl ?_
 refine DL.pu 9 (.bool (decide (a1 ≤ a0))) rfl (p_geq rfl rfl rfl) ?_
 refine DL.mv 10 (.bool (decide (a1 ≤ a0))) rfl rfl rfl ?_
 obtain ⟨q2,h3,h4⟩:=bind_some h
 refine DL.cut [(14,.bool q2)] [8] ?_ (fun J5 => ?_)
 ·
  refine DL.pu 6 (.bool q2) rfl (p_assign rfl rfl) ?_
  refine DL.nil ?_
  obtain rfl:=Option.some.inj h4
  exact retnE (rs:=[.tmp 6]) (vs:=[.bool q2]) hE.base Tryz.func95 rfl rfl rfl (res_cons (ResV.tmp rfl) res_nil) rfl
 ·
  by_cases c6 : (decide (a1 ≤ a0)) = true
  ·
   have h7:=ite_true c6 h3
   refine DL.pure (v:=.int .i64 a0) rfl (Wn.yes c6 rfl rfl rfl rfl) rfl rfl rfl (p_move rfl rfl) ?_
   refine DL.pure (v:=.int .i64 a2) rfl (Wn.yes c6 rfl rfl rfl rfl) rfl rfl rfl (p_move rfl rfl) ?_
   refine DL.pure (v:=.bool (decide (a0 ≤ a2))) rfl (Wn.yes c6 rfl rfl rfl rfl) rfl rfl rfl (p_leq rfl rfl rfl) ?_
   refine DL.pu 14 (.bool (decide (a0 ≤ a2))) rfl (p_pick_t c6 rfl rfl rfl) ?_
   obtain rfl:=Option.some.inj h7
   exact DL.weak J5 (Sub.cons rfl (Sub.nil _))
  ·
   replace c6:=Bool.eq_false_iff.mpr c6
   have h8:=ite_false c6 h3
   refine DL.not rfl (Wn.no c6 rfl rfl rfl rfl) rfl rfl ?_
   refine DL.not rfl (Wn.no c6 rfl rfl rfl rfl) rfl rfl ?_
   refine DL.not rfl (Wn.no c6 rfl rfl rfl rfl) rfl rfl ?_
   refine DL.pu 14 (.bool false) rfl (p_pick_f c6 rfl rfl rfl) ?_
   obtain rfl:=Option.some.inj h8
   exact DL.weak J5 (Sub.cons rfl (Sub.nil _))
theorem script_within.val {a0 : Int} {a1 : Int} {a2 : Int} {r : Bool} (h : script_within.f a0 a1 a2 = some r) {M : Mem} (w : World) (hM : Ext M (heapOf w)) : Calls Tryz.prog 95 #[.int .i64 a0,.int .i64 a1,.int .i64 a2] w fun e w' => e = .returned (.bool r) ∧ Below w.heap.size w w' :=
 calls_value (script_within.ok h w hM)

/-! ### escutcheon/escutcheonref20.Big: function 24 -/
noncomputable def B24 : Code:=bodyOf Tryz.f24
def ref20_Big.L0 (a0 : Reply) : Nat → Int → Int → Option (Int)
 | 0,_,_ => none
 | k + 1,x3_2,x4_3 => nm (decide (x4_3 < ((Reply.parts a0).length : Int))) fun t77 => (if t77 = true then (some (decide (x4_3 ≤ 10))) else (some false)).bind fun q81 => if q81 = true then (req (0 ≤ x4_3) (req (x4_3 < ((Reply.parts a0).length : Int)) (nm ((Reply.parts a0).getD x4_3.toNat []) fun t95 => nm (if 20001 < (t95.length : Int) then 20001 else (t95.length : Int)) fun t98 => ref20_Big.L0 a0 k (IntKind.i64.wrap (x3_2 + t98)) (IntKind.i64.wrap (x4_3 + 1))))) else (some x3_2)
set_option maxRecDepth 20000 in
theorem ref20_Big.L0_ok (a0 : Reply) (a0_3 : Value) (b1 : Nat) {R : Ending → World → Prop} {w0 : World} {M0 M I : Mem} {K : List Item} (hE : Env w0 M0 M I) (hr_a0_3 : RowS (Sh.ints .u8) M a0_3 (Reply.parts a0)) :
  ∀ (k : Nat) (x3_2 : Int) (x4_3 : Int) (r0_ : Int) (h : ref20_Big.L0 a0 k x3_2 x4_3 = some r0_) (hk : TT Tryz.prog 24 R 33 w0 I K [(1,ptr b1 0),(3,.int .i64 r0_)] [(some b1,.cells (#[.int .u64 (Reply.num a0),.int .i64 (Reply.code a0),.int .u32 (Reply.handle a0),a0_3]) 62 (0,0))]),
   TT Tryz.prog 24 R 33 w0 I (.code (sub [1,1,0,1,0,0] B24) :: .inLoop (sub [1,1,0,1,0,0] B24) :: .inBlock 0 :: K) [(1,ptr b1 0),(3,.int .i64 x3_2),(4,.int .i64 x4_3)] [(some b1,.cells (#[.int .u64 (Reply.num a0),.int .i64 (Reply.code a0),.int .u32 (Reply.handle a0),a0_3]) 62 (0,0))]:=by
 intro k
 induction k with
 | zero => intro x3_2 x4_3 r0_ h; simp [ref20_Big.L0] at h
 | succ k ih =>
  intro x3_2 x4_3 r0_ h hk
  unfold ref20_Big.L0 at h
  refine TT.sq rfl ?_
  refine TT.sq rfl ?_
  refine TT.rg [0,1,2,3,4,5,6,7,8] [kp,kp,kq,kp,kp,kp,kp,kp,kp] rfl rfl ?_
  refine DL.mv 5 (.int .i64 x4_3) rfl rfl rfl ?_
  refine DL.pu 6 (ptr b1 3) rfl (p_fieldAddr ty_f62_3 rfl rfl) ?_
  refine DL.qu 7 (a0_3) rfl (f_load (j:=0) ty_a60 rfl rfl rfl rfl) ?_
  refine DL.pu 8 (.int .i64 ((Reply.parts a0).length : Int)) rfl (p_slLen ty_u60 (RowS.sl hr_a0_3) rfl rfl) ?_
  obtain ⟨t77,e78,h79⟩:=nm_some h
  refine DL.pu 9 (.bool t77) rfl (by rw [e78]; exact p_lss rfl rfl rfl) ?_
  refine DL.mv 10 (.bool t77) rfl rfl rfl ?_
  obtain ⟨q81,h82,h83⟩:=bind_some h79
  refine DL.cut [(1,ptr b1 0),(3,.int .i64 x3_2),(4,.int .i64 x4_3),(13,.bool q81)] [] ?_ (fun J84 => ?_)
  ·
   refine DL.nil ?_
   by_cases c88 : q81 = true
   ·
    have h89:=ite_true c88 h83
    refine TT.ct rfl rfl c88 ?_
    refine TT.skip ?_
    refine TT.sq rfl ?_
    refine TT.bk rfl ?_
    refine TT.rg [0,1,2,3,4,5,6,7,8,9] [kp,kp,kq,kp,kp,kp,kp,kp,kp,kp] rfl rfl ?_
    refine DL.mv 16 (.int .i64 x3_2) rfl rfl rfl ?_
    refine DL.pu 17 (ptr b1 3) rfl (p_fieldAddr ty_f62_3 rfl rfl) ?_
    refine DL.qu 18 (a0_3) rfl (f_load (j:=0) ty_a60 rfl rfl rfl rfl) ?_
    refine DL.mv 19 (.int .i64 x4_3) rfl rfl rfl ?_
    obtain ⟨g90,h91⟩:=req_some h89
    obtain ⟨g92,h93⟩:=req_some h91
    refine DL.pu 20 (elp a0_3 x4_3.toNat) rfl (p_slIx1 ty_u60 ty_s31 (RowS.some hr_a0_3 g90 g92) g90 g92 rfl rfl rfl) ?_
    obtain ⟨t95,e96,h97⟩:=nm_some h93
    obtain ⟨cs94,hc94,hl94⟩:=id (hr_a0_3)
    have q94:=hl94 _ _ (getD_some [] (lt_len g90 g92)); rw [← e96] at q94
    obtain ⟨t95_v,hq94,hr_t95⟩:=ints_open q94
    refine DL.imm (v:=t95_v) rfl (Wn.none rfl) rfl rfl rfl (i_loadEl (RowV.mono hc94 hE.mi) (chunk1 hq94) ty_a31 rfl rfl) ?_
    refine DL.pu 22 (.int .i64 (t95.length : Int)) rfl (p_slLen ty_u31 (RowV.sl hr_t95) rfl rfl) ?_
    obtain ⟨t98,e99,h100⟩:=nm_some h97
    refine DL.pu 23 (.int .i64 t98) rfl (by rw [e99]; exact p_min2 rfl rfl rfl) ?_
    refine DL.pu 24 (.int .i64 (IntKind.i64.wrap (x3_2 + t98))) rfl (p_add rfl rfl rfl) ?_
    refine DL.pu 3 (.int .i64 (IntKind.i64.wrap (x3_2 + t98))) rfl (p_assign rfl rfl) ?_
    refine DL.nil ?_
    refine TT.inBlock ?_
    refine TT.rg [0,1,2] [kp,kp,kp] rfl rfl ?_
    refine DL.mv 14 (.int .i64 x4_3) rfl rfl rfl ?_
    refine DL.pu 15 (.int .i64 (IntKind.i64.wrap (x4_3 + 1))) rfl (p_add rfl rfl rfl) ?_
    refine DL.pu 4 (.int .i64 (IntKind.i64.wrap (x4_3 + 1))) rfl (p_assign rfl rfl) ?_
    refine DL.nil ?_
    refine TT.inLoop ?_
    exact TT.weak (ih (IntKind.i64.wrap (x3_2 + t98)) (IntKind.i64.wrap (x4_3 + 1)) r0_ h100 hk) (Sub.cons rfl (Sub.cons rfl (Sub.cons rfl (Sub.nil _))))
   ·
    replace c88:=Bool.eq_false_iff.mpr c88
    have h101:=ite_false c88 h83
    refine TT.cf rfl rfl c88 ?_
    refine TT.exit rfl ?_
    obtain rfl:=Option.some.inj h101
    exact TT.weak (hk) (Sub.cons rfl (Sub.cons rfl (Sub.nil _)))
  ·
   by_cases c85 : t77 = true
   ·
    have h86:=ite_true c85 h82
    refine DL.pure (v:=.int .i64 x4_3) rfl (Wn.yes c85 rfl rfl rfl rfl) rfl rfl rfl (p_move rfl rfl) ?_
    refine DL.pure (v:=.bool (decide (x4_3 ≤ 10))) rfl (Wn.yes c85 rfl rfl rfl rfl) rfl rfl rfl (p_leq rfl rfl rfl) ?_
    refine DL.pu 13 (.bool (decide (x4_3 ≤ 10))) rfl (p_pick_t c85 rfl rfl rfl) ?_
    obtain rfl:=Option.some.inj h86
    exact DL.weak J84 (Sub.cons rfl (Sub.cons rfl (Sub.cons rfl (Sub.cons rfl (Sub.nil _)))))
   ·
    replace c85:=Bool.eq_false_iff.mpr c85
    have h87:=ite_false c85 h82
    refine DL.not rfl (Wn.no c85 rfl rfl rfl rfl) rfl rfl ?_
    refine DL.not rfl (Wn.no c85 rfl rfl rfl rfl) rfl rfl ?_
    refine DL.pu 13 (.bool false) rfl (p_pick_f c85 rfl rfl rfl) ?_
    obtain rfl:=Option.some.inj h87
    exact DL.weak J84 (Sub.cons rfl (Sub.cons rfl (Sub.cons rfl (Sub.cons rfl (Sub.nil _)))))

def ref20_Big.f (a0 : Reply) : Option (Bool):=(ref20_Big.L0 a0 ((10 : Int).toNat + 2) 0 0).bind fun z3_76 => (if (decide (10 < ((Reply.parts a0).length : Int))) = true then (some true) else (some (decide (20000 < z3_76)))).bind fun q106 => some q106
set_option maxRecDepth 20000 in
theorem ref20_Big.ok {a0 : Reply} {a0_3 : Value} {r : Bool} (h : ref20_Big.f a0 = some r) {M : Mem} (w : World) (hM : Ext M (heapOf w)) (hr_a0_3 : RowS (Sh.ints .u8) M a0_3 (Reply.parts a0)) : Calls Tryz.prog 24 #[.agg #[.int .u64 (Reply.num a0),.int .i64 (Reply.code a0),.int .u32 (Reply.handle a0),a0_3]] w (Post (fun u => u = .bool r) w):=by
 unfold ref20_Big.f at h
 have hE:=Env.start hM
 refine calls_of_TT (N:=33) (S:=[(0,.agg #[.int .u64 (Reply.num a0),.int .i64 (Reply.code a0),.int .u32 (Reply.handle a0),a0_3])]) (c:=B24) Tryz.func24 rfl rfl rfl (by simp) ?_
 show TT _ _ _ _ _ _ [.code (sub [] B24)] _ _
 refine TT.sq rfl ?_
 refine TT.rg [0,1] [kA,kp] rfl rfl ?_
 refine DL.new (ob:=.cells (#[.int .u64 (Reply.num a0),.int .i64 (Reply.code a0),.int .u32 (Reply.handle a0),a0_3]) 62) (mk:=fun b => ptr b 0) (i:=0) rfl (Wn.none rfl) rfl rfl rfl (f_box (v:=.agg #[.int .u64 (Reply.num a0),.int .i64 (Reply.code a0),.int .u32 (Reply.handle a0),a0_3]) rfl rfl) ?_
 intro b1 hb1
 refine DL.pu 2 (.bool false) rfl (p_assign rfl rfl) ?_
 refine DL.nil ?_
 refine TT.sq rfl ?_
 refine TT.rg [0] [kp] rfl rfl ?_
 refine DL.pu 3 (.int .i64 0) rfl (p_assign rfl rfl) ?_
 refine DL.nil ?_
 refine TT.sq rfl ?_
 refine TT.sq rfl ?_
 refine TT.rg [0] [kp] rfl rfl ?_
 refine DL.pu 4 (.int .i64 0) rfl (p_assign rfl rfl) ?_
 refine DL.nil ?_
 refine TT.bk rfl ?_
 refine TT.lp rfl ?_
 obtain ⟨z3_76,h102,h103⟩:=bind_some h
 refine TT.weak (ref20_Big.L0_ok a0 a0_3 b1 hE hr_a0_3 ((10 : Int).toNat + 2) 0 0 z3_76 h102 ( ?_)) (Sub.cons rfl (Sub.cons rfl (Sub.cons rfl (Sub.nil _))))
 refine TT.sq rfl ?_
 refine TT.rg [0,1,2,3,4,5,6,7,8] [kp,kq,kp,kp,kp,kp,kp,kp,kp] rfl rfl ?_
 refine DL.pu 25 (ptr b1 3) rfl (p_fieldAddr ty_f62_3 rfl rfl) ?_
 refine DL.qu 26 (a0_3) rfl (f_load (j:=0) ty_a60 rfl rfl rfl rfl) ?_
 refine DL.pu 27 (.int .i64 ((Reply.parts a0).length : Int)) rfl (p_slLen ty_u60 (RowS.sl hr_a0_3) rfl rfl) ?_
 refine DL.pu 28 (.bool (decide (10 < ((Reply.parts a0).length : Int)))) rfl (p_gtr rfl rfl rfl) ?_
 refine DL.mv 29 (.bool (decide (10 < ((Reply.parts a0).length : Int)))) rfl rfl rfl ?_
 obtain ⟨q106,h107,h108⟩:=bind_some h103
 refine DL.cut [(32,.bool q106)] [8] ?_ (fun J109 => ?_)
 ·
  refine DL.pu 2 (.bool q106) rfl (p_assign rfl rfl) ?_
  refine DL.nil ?_
  obtain rfl:=Option.some.inj h108
  exact retnE (rs:=[.tmp 2]) (vs:=[.bool q106]) hE.base Tryz.func24 rfl rfl rfl (res_cons (ResV.tmp rfl) res_nil) rfl
 ·
  by_cases c110 : (decide (10 < ((Reply.parts a0).length : Int))) = true
  ·
   have h111:=ite_true c110 h107
   refine DL.not rfl (Wn.yes c110 rfl rfl rfl rfl) rfl rfl ?_
   refine DL.not rfl (Wn.yes c110 rfl rfl rfl rfl) rfl rfl ?_
   refine DL.pu 32 (.bool true) rfl (p_pick_t c110 rfl rfl rfl) ?_
   obtain rfl:=Option.some.inj h111
   exact DL.weak J109 (Sub.cons rfl (Sub.nil _))
  ·
   replace c110:=Bool.eq_false_iff.mpr c110
   have h112:=ite_false c110 h107
   refine DL.pure (v:=.int .i64 z3_76) rfl (Wn.no c110 rfl rfl rfl rfl) rfl rfl rfl (p_move rfl rfl) ?_
   refine DL.pure (v:=.bool (decide (20000 < z3_76))) rfl (Wn.no c110 rfl rfl rfl rfl) rfl rfl rfl (p_gtr rfl rfl rfl) ?_
   refine DL.pu 32 (.bool (decide (20000 < z3_76))) rfl (p_pick_f c110 rfl rfl rfl) ?_
   obtain rfl:=Option.some.inj h112
   exact DL.weak J109 (Sub.cons rfl (Sub.nil _))
theorem ref20_Big.val {a0 : Reply} {a0_3 : Value} {r : Bool} (h : ref20_Big.f a0 = some r) {M : Mem} (w : World) (hM : Ext M (heapOf w)) (hr_a0_3 : RowS (Sh.ints .u8) M a0_3 (Reply.parts a0)) : Calls Tryz.prog 24 #[.agg #[.int .u64 (Reply.num a0),.int .i64 (Reply.code a0),.int .u32 (Reply.handle a0),a0_3]] w fun e w' => e = .returned (.bool r) ∧ Below w.heap.size w w' :=
 calls_value (ref20_Big.ok h w hM hr_a0_3)

/-! ### escutcheon/script.ReplyText: function 25 -/
noncomputable def B25 : Code:=bodyOf Tryz.f25
def script_ReplyText.L0 (a0 : Reply) : Nat → (List (List UInt8)) → Int → Option (List (List UInt8))
 | 0,_,_ => none
 | k + 1,y_26,x20_27 => nm (decide (x20_27 < ((Reply.parts a0).length : Int))) fun t101 => if t101 = true then (req (0 ≤ x20_27) (req (x20_27 < ((Reply.parts a0).length : Int)) (nm ((Reply.parts a0).getD x20_27.toNat []) fun t111 => (script_digits.f t111).bind fun t114 => req (y_26.length + ([t114] : List (List UInt8)).length ≤ 1099511627776) (script_ReplyText.L0 a0 k (y_26 ++ ([t114] : List (List UInt8))) (IntKind.i64.wrap (x20_27 + 1)))))) else (some y_26)
set_option maxRecDepth 20000 in
theorem script_ReplyText.L0_ok (a0 : Reply) (a0_3 : Value) (b1 : Nat) {R : Ending → World → Prop} {w0 : World} {M0 M I : Mem} {K : List Item} (hE : Env w0 M0 M I) (hr_a0_3 : RowS (Sh.ints .u8) M a0_3 (Reply.parts a0)) :
  ∀ (k : Nat) (y_26 : List (List UInt8)) (x20_27 : Int) (y_26_v : Value) (y_26_c : Array Value) (r0_ : List (List UInt8)) (ho_y_26 : OwnS Sh.str M y_26_v y_26_c y_26) (h : script_ReplyText.L0 a0 k y_26 x20_27 = some r0_) (hk : ∀ (z_o24_100_v : Value),∀ (z_o24_100_c : Array Value),OwnS Sh.str M z_o24_100_v z_o24_100_c r0_ → TT Tryz.prog 25 R 32 w0 I K [(3,z_o24_100_v)] [(Value.ownBlock z_o24_100_v,.cells z_o24_100_c 9 (0,0)),(some b1,.cells (#[.int .u64 (Reply.num a0),.int .i64 (Reply.code a0),.int .u32 (Reply.handle a0),a0_3]) 62 (0,0))]),
   TT Tryz.prog 25 R 32 w0 I (.code (sub [1,1,0,1,0,0] B25) :: .inLoop (sub [1,1,0,1,0,0] B25) :: .inBlock 0 :: K) [(3,y_26_v),(18,a0_3),(19,.int .i64 ((Reply.parts a0).length : Int)),(20,.int .i64 x20_27)] [(Value.ownBlock y_26_v,.cells y_26_c 9 (0,0)),(some b1,.cells (#[.int .u64 (Reply.num a0),.int .i64 (Reply.code a0),.int .u32 (Reply.handle a0),a0_3]) 62 (0,0))]:=by
 intro k
 induction k with
 | zero => intro y_26 x20_27 y_26_v y_26_c r0_ ho_y_26 h; simp [script_ReplyText.L0] at h
 | succ k ih =>
  intro y_26 x20_27 y_26_v y_26_c r0_ ho_y_26 h hk
  unfold script_ReplyText.L0 at h
  refine TT.sq rfl ?_
  refine TT.rg [0] [kp] rfl rfl ?_
  obtain ⟨t101,e102,h103⟩:=nm_some h
  refine DL.pu 21 (.bool t101) rfl (by rw [e102]; exact p_lss rfl rfl rfl) ?_
  refine DL.nil ?_
  refine TT.sq rfl ?_
  by_cases c104 : t101 = true
  ·
   have h105:=ite_true c104 h103
   refine TT.ct rfl rfl c104 ?_
   refine TT.skip ?_
   refine TT.sq rfl ?_
   refine TT.bk rfl ?_
   refine TT.sq rfl ?_
   refine TT.rg [0,1,2] [kp,kp,kp] rfl rfl ?_
   obtain ⟨g106,h107⟩:=req_some h105
   obtain ⟨g108,h109⟩:=req_some h107
   refine DL.pu 22 (elp a0_3 x20_27.toNat) rfl (p_slIx1 ty_u60 ty_s31 (RowS.some hr_a0_3 g106 g108) g106 g108 rfl rfl rfl) ?_
   obtain ⟨t111,e112,h113⟩:=nm_some h109
   obtain ⟨cs110,hc110,hl110⟩:=id (hr_a0_3)
   have q110:=hl110 _ _ (getD_some [] (lt_len g106 g108)); rw [← e112] at q110
   obtain ⟨t111_v,hq110,hr_t111⟩:=ints_open q110
   refine DL.imm (v:=t111_v) rfl (Wn.none rfl) rfl rfl rfl (i_loadEl (RowV.mono hc110 hE.mi) (chunk1 hq110) ty_a31 rfl rfl) ?_
   refine DL.pu 5 (t111_v) rfl (p_assign rfl rfl) ?_
   refine DL.nil ?_
   refine TT.rg [0,1,2,3,4,5] [kp,kp,kq,kA,kx,kp] rfl rfl ?_
   refine DL.mv 24 (y_26_v) rfl rfl rfl ?_
   refine DL.mv 25 (t111_v) rfl rfl rfl ?_
   obtain ⟨t114,h115,h116⟩:=bind_some h113
   refine DL.qu 26 (str t114) rfl (f_callR rfl rfl (args_val (vs:=[t111_v]) rfl) (fun w => enter68 _ w) (fun w hc => script_digits.val h115 (M:=M) w (hE.ext hc) hr_t111)) ?_
   refine DL.newS (M:=M) (s:=Sh.str) (zs:=([t114] : List (List UInt8))) (cells:=[str t114]) (n:=1) rfl (by decide) rfl (fun i x hx => by match i,hx with | 0,hx => cases hx; exact rfl | k + 1,hx => simp at hx) (i:=3) rfl (Wn.none rfl) rfl rfl rfl (f_buildS (n:=1) (vs:=[(0,str t114)]) elem46 rfl rfl (by kernel_rfl) rfl (args_val2 rfl)) ?_
   intro s118_v s118_c ho_s118
   obtain ⟨g119,h120⟩:=req_some h116
   refine DL.appendS (M:=M) (s:=Sh.str) (fun s121_v s121_c => [(Value.ownBlock s118_v,.cells s118_c 9 (0,0)),(Value.ownBlock s121_v,.cells s121_c 9 (0,0)),(some b1,.cells (#[.int .u64 (Reply.num a0),.int .i64 (Reply.code a0),.int .u32 (Reply.handle a0),a0_3]) 62 (0,0))]) elem46 (j:=1) rfl ho_y_26 g119 (by decide) (OwnS.src (i:=0) ho_s118 rfl) (i:=4) rfl (Wn.none rfl) rfl rfl rfl rfl rfl rfl (fun _ _ => rfl) ?_
   intro s121_v s121_c ho_s121
   refine DL.pu 3 (s121_v) rfl (p_assign rfl rfl) ?_
   refine DL.nil ?_
   refine TT.inBlock ?_
   refine TT.rg [0,1] [kp,kp] rfl rfl ?_
   refine DL.pu 29 (.int .i64 (IntKind.i64.wrap (x20_27 + 1))) rfl (p_add rfl rfl rfl) ?_
   refine DL.mv 20 (.int .i64 (IntKind.i64.wrap (x20_27 + 1))) rfl rfl rfl ?_
   refine DL.nil ?_
   refine TT.inLoop ?_
   exact TT.pick [1,2] (by decide) (TT.weak (ih (y_26 ++ ([t114] : List (List UInt8))) (IntKind.i64.wrap (x20_27 + 1)) s121_v s121_c r0_ ho_s121 h120 hk) (Sub.cons rfl (Sub.cons rfl (Sub.cons rfl (Sub.cons rfl (Sub.nil _))))))
  ·
   replace c104:=Bool.eq_false_iff.mpr c104
   have h122:=ite_false c104 h103
   refine TT.cf rfl rfl c104 ?_
   refine TT.exit rfl ?_
   obtain rfl:=Option.some.inj h122
   exact TT.weak (hk y_26_v y_26_c ho_y_26) (Sub.cons rfl (Sub.nil _))

def script_ReplyText.f (a0 : Reply) : Option ((List UInt8)):=req (0 ≤ (Reply.num a0)) (req ((Reply.num a0) < 18446744073709551616) (nm (Lib.itoa (Reply.num a0)) fun t7 => req (-9223372036854775808 ≤ (Reply.code a0)) (req ((Reply.code a0) ≤ 9223372036854775807) (nm (Lib.itoa (Reply.code a0)) fun t14 => req (-9223372036854775808 ≤ (IntKind.i64.wrap (Reply.handle a0))) (req ((IntKind.i64.wrap (Reply.handle a0)) ≤ 9223372036854775807) (nm (Lib.itoa (IntKind.i64.wrap (Reply.handle a0))) fun t21 => (script_ReplyText.L0 a0 (((Reply.parts a0).length : Int).toNat + 1) ([t7,t14,t21] : List (List UInt8)) 0).bind fun z_o24_100 => req (z_o24_100.length ≤ 140737488355328) (req ((joinL z_o24_100 [32]).length ≤ 140737488355328) (nm (joinL z_o24_100 [32]) fun t130 => some t130))))))))
set_option maxRecDepth 20000 in
theorem script_ReplyText.ok {a0 : Reply} {a0_3 : Value} {r : List UInt8} (h : script_ReplyText.f a0 = some r) {M : Mem} (w : World) (hM : Ext M (heapOf w)) (hG : Glob M) (hr_a0_3 : RowS (Sh.ints .u8) M a0_3 (Reply.parts a0)) : Calls Tryz.prog 25 #[.agg #[.int .u64 (Reply.num a0),.int .i64 (Reply.code a0),.int .u32 (Reply.handle a0),a0_3]] w (Post (fun u => u = str r) w):=by
 unfold script_ReplyText.f at h
 have hE:=Env.start hM
 refine calls_of_TT (N:=32) (S:=[(0,.agg #[.int .u64 (Reply.num a0),.int .i64 (Reply.code a0),.int .u32 (Reply.handle a0),a0_3])]) (c:=B25) Tryz.func25 rfl rfl rfl (by simp) ?_
 show TT _ _ _ _ _ _ [.code (sub [] B25)] _ _
 refine TT.sq rfl ?_
 refine TT.rg [0,1] [kA,kp] rfl rfl ?_
 refine DL.new (ob:=.cells (#[.int .u64 (Reply.num a0),.int .i64 (Reply.code a0),.int .u32 (Reply.handle a0),a0_3]) 62) (mk:=fun b => ptr b 0) (i:=0) rfl (Wn.none rfl) rfl rfl rfl (f_box (v:=.agg #[.int .u64 (Reply.num a0),.int .i64 (Reply.code a0),.int .u32 (Reply.handle a0),a0_3]) rfl rfl) ?_
 intro b1 hb1
 refine DL.pu 2 (str zU) rfl (p_assign rfl rfl) ?_
 refine DL.nil ?_
 refine TT.sq rfl ?_
 refine TT.rgD [0,1,2,3,4,5,6,7,8,9,10,11] [0,1,3,0,8,31,0,64,192,511,1023,2047] [kp,(.look,some 0),kq,kp,(.look,some 0),kq,kp,(.look,some 0),kp,kq,kA,kp] rfl mixed (by kernel_rfl) ?_
 intro w2 hl2 hj2 hz2
 refine DL.pu 6 (ptr b1 0) rfl (p_fieldAddr ty_f62_0 rfl rfl) ?_
 refine DL.look (v:=.int .u64 (Reply.num a0)) (x:=0) (b:=b1) (i:=1) rfl (Wn.none rfl) rfl rfl rfl rfl rfl (List.mem_of_getElem? (i:=0) rfl) (b_load ty_a24 rfl rfl rfl) ?_
 obtain ⟨g3,h4⟩:=req_some h
 obtain ⟨g5,h6⟩:=req_some h4
 obtain ⟨t7,e8,h9⟩:=nm_some h6
 refine DL.qu 8 (str t7) rfl (by rw [e8]; exact f_callR rfl rfl (args_val (vs:=[.int .u64 (Reply.num a0),.int .i64 10]) rfl) (fun w => enter67 _ w) (fun w hc => futoa_ok hG _ g3 g5 w (hE.ext hc))) ?_
 refine DL.pu 9 (ptr b1 1) rfl (p_fieldAddr ty_f62_1 rfl rfl) ?_
 refine DL.look (v:=.int .i64 (Reply.code a0)) (x:=0) (b:=b1) (i:=4) rfl (Wn.none rfl) rfl rfl rfl rfl rfl (List.mem_of_getElem? (i:=0) rfl) (b_load ty_a3 rfl rfl rfl) ?_
 obtain ⟨g10,h11⟩:=req_some h9
 obtain ⟨g12,h13⟩:=req_some h11
 obtain ⟨t14,e15,h16⟩:=nm_some h13
 refine DL.qu 11 (str t14) rfl (by rw [e15]; exact f_callR rfl rfl (args_val (vs:=[.int .i64 (Reply.code a0)]) rfl) (fun w => enter63 _ w) (fun w hc => itoa_ok hG _ g10 g12 w (hE.ext hc))) ?_
 refine DL.pu 12 (ptr b1 2) rfl (p_fieldAddr ty_f62_2 rfl rfl) ?_
 refine DL.look (v:=.int .u32 (Reply.handle a0)) (x:=0) (b:=b1) (i:=7) rfl (Wn.none rfl) rfl rfl rfl rfl rfl (List.mem_of_getElem? (i:=0) rfl) (b_load ty_a28 rfl rfl rfl) ?_
 refine DL.pu 14 (.int .i64 (IntKind.i64.wrap (Reply.handle a0))) rfl (p_conv ty_u28 ty_u3 ⟨_,rfl⟩ rfl rfl) ?_
 obtain ⟨g17,h18⟩:=req_some h16
 obtain ⟨g19,h20⟩:=req_some h18
 obtain ⟨t21,e22,h23⟩:=nm_some h20
 refine DL.qu 15 (str t21) rfl (by rw [e22]; exact f_callR rfl rfl (args_val (vs:=[.int .i64 (IntKind.i64.wrap (Reply.handle a0))]) rfl) (fun w => enter63 _ w) (fun w hc => itoa_ok hG _ g17 g19 w (hE.ext hc))) ?_
 refine DL.newS (M:=M) (s:=Sh.str) (zs:=([t7,t14,t21] : List (List UInt8))) (cells:=[str t7,str t14,str t21]) (n:=3) rfl (by decide) rfl (fun i x hx => by match i,hx with | 0,hx => cases hx; exact rfl | 1,hx => cases hx; exact rfl | 2,hx => cases hx; exact rfl | k + 3,hx => simp at hx) (i:=10) rfl (Wn.none rfl) rfl rfl rfl (f_buildS (n:=3) (vs:=[(0,str t7),(1,str t14),(2,str t21)]) elem46 rfl rfl (by kernel_rfl) rfl (args_val2 rfl)) ?_
 intro s25_v s25_c ho_s25
 refine DL.pu 3 (s25_v) rfl (p_assign rfl rfl) ?_
 refine DL.nil' hl2 ?_
 refine TT.sq rfl ?_
 refine TT.sq rfl ?_
 refine TT.rg [0,1,2,3] [kp,kq,kp,kp] rfl rfl ?_
 refine DL.pu 17 (ptr b1 3) rfl (p_fieldAddr ty_f62_3 rfl rfl) ?_
 refine DL.qu 18 (a0_3) rfl (f_load (j:=1) ty_a60 rfl rfl rfl rfl) ?_
 refine DL.pu 19 (.int .i64 ((Reply.parts a0).length : Int)) rfl (p_slLen ty_u60 (RowS.sl hr_a0_3) rfl rfl) ?_
 refine DL.mv 20 (.int .i64 0) rfl rfl rfl ?_
 refine DL.nil ?_
 refine TT.bk rfl ?_
 refine TT.lp rfl ?_
 obtain ⟨z_o24_100,h123,h124⟩:=bind_some h23
 refine TT.weak (script_ReplyText.L0_ok a0 a0_3 b1 hE hr_a0_3 (((Reply.parts a0).length : Int).toNat + 1) ([t7,t14,t21] : List (List UInt8)) 0 s25_v s25_c z_o24_100 ho_s25 h123 (fun z_o24_100_v z_o24_100_c ho_z_o24_100 => ?_)) (Sub.cons rfl (Sub.cons rfl (Sub.cons rfl (Sub.cons rfl (Sub.nil _)))))
 refine TT.sq rfl ?_
 refine TT.rg [0,1,2] [kp,kq,kp] rfl rfl ?_
 refine DL.mv 30 (z_o24_100_v) rfl rfl rfl ?_
 obtain ⟨g126,h127⟩:=req_some h124
 obtain ⟨g128,h129⟩:=req_some h127
 obtain ⟨t130,e131,h132⟩:=nm_some h129
 refine DL.qu 31 (str t130) rfl (by rw [e131]; exact f_callR rfl rfl (args_val (vs:=[z_o24_100_v,str [32]]) rfl) (fun w => enter69 _ w) (fun w hc => join_ok (i:=0) _ ho_z_o24_100 hc rfl g126 g128)) ?_
 refine DL.pu 2 (str t130) rfl (p_assign rfl rfl) ?_
 refine DL.nil ?_
 obtain rfl:=Option.some.inj h132
 exact retnE (rs:=[.tmp 2]) (vs:=[str t130]) hE.base Tryz.func25 rfl rfl rfl (res_cons (ResV.tmp rfl) res_nil) rfl
theorem script_ReplyText.val {a0 : Reply} {a0_3 : Value} {r : List UInt8} (h : script_ReplyText.f a0 = some r) {M : Mem} (w : World) (hM : Ext M (heapOf w)) (hG : Glob M) (hr_a0_3 : RowS (Sh.ints .u8) M a0_3 (Reply.parts a0)) : Calls Tryz.prog 25 #[.agg #[.int .u64 (Reply.num a0),.int .i64 (Reply.code a0),.int .u32 (Reply.handle a0),a0_3]] w fun e w' => e = .returned (str r) ∧ Below w.heap.size w w' :=
 calls_value (script_ReplyText.ok h w hM hG hr_a0_3)

/-! ### escutcheon/escutcheonref31.ReplyText: function 26 -/
noncomputable def B26 : Code:=bodyOf Tryz.f26
def ref31_ReplyText.L0 (a0 : Reply) : Nat → (List UInt8) → Int → Option (List UInt8)
 | 0,_,_ => none
 | k + 1,x3_32,x4_33 => nm (decide (x4_33 < ((Reply.parts a0).length : Int))) fun t103 => if t103 = true then (req (x3_32.length + [32].length ≤ 1099511627776) (req (0 ≤ x4_33) (req (x4_33 < ((Reply.parts a0).length : Int)) (nm ((Reply.parts a0).getD x4_33.toNat []) fun t115 => (ref31_Digits.f t115).bind fun t118 => req ((x3_32 ++ [32]).length + t118.length ≤ 1099511627776) (ref31_ReplyText.L0 a0 k ((x3_32 ++ [32]) ++ t118) (IntKind.i64.wrap (x4_33 + 1))))))) else (some x3_32)
set_option maxRecDepth 20000 in
theorem ref31_ReplyText.L0_ok (a0 : Reply) (a0_3 : Value) (b1 : Nat) {R : Ending → World → Prop} {w0 : World} {M0 M I : Mem} {K : List Item} (hE : Env w0 M0 M I) (hr_a0_3 : RowS (Sh.ints .u8) M a0_3 (Reply.parts a0)) :
  ∀ (k : Nat) (x3_32 : List UInt8) (x4_33 : Int) (r0_ : List UInt8) (h : ref31_ReplyText.L0 a0 k x3_32 x4_33 = some r0_) (hk : TT Tryz.prog 26 R 36 w0 I K [(3,str r0_)] [(some b1,.cells (#[.int .u64 (Reply.num a0),.int .i64 (Reply.code a0),.int .u32 (Reply.handle a0),a0_3]) 62 (0,0))]),
   TT Tryz.prog 26 R 36 w0 I (.code (sub [1,1,0,1,0,0] B26) :: .inLoop (sub [1,1,0,1,0,0] B26) :: .inBlock 0 :: K) [(1,ptr b1 0),(3,str x3_32),(4,.int .i64 x4_33)] [(some b1,.cells (#[.int .u64 (Reply.num a0),.int .i64 (Reply.code a0),.int .u32 (Reply.handle a0),a0_3]) 62 (0,0))]:=by
 intro k
 induction k with
 | zero => intro x3_32 x4_33 r0_ h; simp [ref31_ReplyText.L0] at h
 | succ k ih =>
  intro x3_32 x4_33 r0_ h hk
  unfold ref31_ReplyText.L0 at h
  refine TT.sq rfl ?_
  refine TT.sq rfl ?_
  refine TT.rg [0,1,2,3,4] [kp,kp,kq,kp,kp] rfl rfl ?_
  refine DL.mv 19 (.int .i64 x4_33) rfl rfl rfl ?_
  refine DL.pu 20 (ptr b1 3) rfl (p_fieldAddr ty_f62_3 rfl rfl) ?_
  refine DL.qu 21 (a0_3) rfl (f_load (j:=0) ty_a60 rfl rfl rfl rfl) ?_
  refine DL.pu 22 (.int .i64 ((Reply.parts a0).length : Int)) rfl (p_slLen ty_u60 (RowS.sl hr_a0_3) rfl rfl) ?_
  obtain ⟨t103,e104,h105⟩:=nm_some h
  refine DL.pu 23 (.bool t103) rfl (by rw [e104]; exact p_lss rfl rfl rfl) ?_
  refine DL.nil ?_
  by_cases c106 : t103 = true
  ·
   have h107:=ite_true c106 h105
   refine TT.ct rfl rfl c106 ?_
   refine TT.skip ?_
   refine TT.sq rfl ?_
   refine TT.bk rfl ?_
   refine TT.rg [0,1,2,3,4,5,6,7,8,9] [kp,kp,kp,kq,kp,kp,kp,kq,kp,kp] rfl rfl ?_
   refine DL.mv 26 (str x3_32) rfl rfl rfl ?_
   obtain ⟨g108,h109⟩:=req_some h107
   refine DL.pu 27 (str (x3_32 ++ [32])) rfl (p_strAdd g108 rfl rfl rfl) ?_
   refine DL.pu 28 (ptr b1 3) rfl (p_fieldAddr ty_f62_3 rfl rfl) ?_
   refine DL.qu 29 (a0_3) rfl (f_load (j:=0) ty_a60 rfl rfl rfl rfl) ?_
   refine DL.mv 30 (.int .i64 x4_33) rfl rfl rfl ?_
   obtain ⟨g110,h111⟩:=req_some h109
   obtain ⟨g112,h113⟩:=req_some h111
   refine DL.pu 31 (elp a0_3 x4_33.toNat) rfl (p_slIx1 ty_u60 ty_s31 (RowS.some hr_a0_3 g110 g112) g110 g112 rfl rfl rfl) ?_
   obtain ⟨t115,e116,h117⟩:=nm_some h113
   obtain ⟨cs114,hc114,hl114⟩:=id (hr_a0_3)
   have q114:=hl114 _ _ (getD_some [] (lt_len g110 g112)); rw [← e116] at q114
   obtain ⟨t115_v,hq114,hr_t115⟩:=ints_open q114
   refine DL.imm (v:=t115_v) rfl (Wn.none rfl) rfl rfl rfl (i_loadEl (RowV.mono hc114 hE.mi) (chunk1 hq114) ty_a31 rfl rfl) ?_
   obtain ⟨t118,h119,h120⟩:=bind_some h117
   refine DL.qu 33 (str t118) rfl (f_callR rfl rfl (args_val (vs:=[t115_v]) rfl) (fun w => enter66 _ w) (fun w hc => ref31_Digits.val h119 (M:=M) w (hE.ext hc) hr_t115)) ?_
   obtain ⟨g121,h122⟩:=req_some h120
   refine DL.pu 34 (str ((x3_32 ++ [32]) ++ t118)) rfl (p_strAdd g121 rfl rfl rfl) ?_
   refine DL.pu 3 (str ((x3_32 ++ [32]) ++ t118)) rfl (p_assign rfl rfl) ?_
   refine DL.nil ?_
   refine TT.inBlock ?_
   refine TT.rg [0,1,2] [kp,kp,kp] rfl rfl ?_
   refine DL.mv 24 (.int .i64 x4_33) rfl rfl rfl ?_
   refine DL.pu 25 (.int .i64 (IntKind.i64.wrap (x4_33 + 1))) rfl (p_add rfl rfl rfl) ?_
   refine DL.pu 4 (.int .i64 (IntKind.i64.wrap (x4_33 + 1))) rfl (p_assign rfl rfl) ?_
   refine DL.nil ?_
   refine TT.inLoop ?_
   exact TT.weak (ih ((x3_32 ++ [32]) ++ t118) (IntKind.i64.wrap (x4_33 + 1)) r0_ h122 hk) (Sub.cons rfl (Sub.cons rfl (Sub.cons rfl (Sub.nil _))))
  ·
   replace c106:=Bool.eq_false_iff.mpr c106
   have h123:=ite_false c106 h105
   refine TT.cf rfl rfl c106 ?_
   refine TT.exit rfl ?_
   obtain rfl:=Option.some.inj h123
   exact TT.weak (hk) (Sub.cons rfl (Sub.nil _))

def ref31_ReplyText.f (a0 : Reply) : Option ((List UInt8)):=req (0 ≤ (Reply.num a0)) (req ((Reply.num a0) < 18446744073709551616) (nm (Lib.itoa (Reply.num a0)) fun t7 => req (t7.length + [32].length ≤ 1099511627776) (req (-9223372036854775808 ≤ (Reply.code a0)) (req ((Reply.code a0) ≤ 9223372036854775807) (nm (Lib.itoa (Reply.code a0)) fun t16 => req ((t7 ++ [32]).length + t16.length ≤ 1099511627776) (req (((t7 ++ [32]) ++ t16).length + [32].length ≤ 1099511627776) (req (-9223372036854775808 ≤ (IntKind.i64.wrap (Reply.handle a0))) (req ((IntKind.i64.wrap (Reply.handle a0)) ≤ 9223372036854775807) (nm (Lib.itoa (IntKind.i64.wrap (Reply.handle a0))) fun t27 => req ((((t7 ++ [32]) ++ t16) ++ [32]).length + t27.length ≤ 1099511627776) ((ref31_ReplyText.L0 a0 (((Reply.parts a0).length : Int).toNat + 1) ((((t7 ++ [32]) ++ t16) ++ [32]) ++ t27) 0).bind fun z3_102 => some z3_102))))))))))
set_option maxRecDepth 20000 in
theorem ref31_ReplyText.ok {a0 : Reply} {a0_3 : Value} {r : List UInt8} (h : ref31_ReplyText.f a0 = some r) {M : Mem} (w : World) (hM : Ext M (heapOf w)) (hG : Glob M) (hr_a0_3 : RowS (Sh.ints .u8) M a0_3 (Reply.parts a0)) : Calls Tryz.prog 26 #[.agg #[.int .u64 (Reply.num a0),.int .i64 (Reply.code a0),.int .u32 (Reply.handle a0),a0_3]] w (Post (fun u => u = str r) w):=by
 unfold ref31_ReplyText.f at h
 have hE:=Env.start hM
 refine calls_of_TT (N:=36) (S:=[(0,.agg #[.int .u64 (Reply.num a0),.int .i64 (Reply.code a0),.int .u32 (Reply.handle a0),a0_3])]) (c:=B26) Tryz.func26 rfl rfl rfl (by simp) ?_
 show TT _ _ _ _ _ _ [.code (sub [] B26)] _ _
 refine TT.sq rfl ?_
 refine TT.rg [0,1] [kA,kp] rfl rfl ?_
 refine DL.new (ob:=.cells (#[.int .u64 (Reply.num a0),.int .i64 (Reply.code a0),.int .u32 (Reply.handle a0),a0_3]) 62) (mk:=fun b => ptr b 0) (i:=0) rfl (Wn.none rfl) rfl rfl rfl (f_box (v:=.agg #[.int .u64 (Reply.num a0),.int .i64 (Reply.code a0),.int .u32 (Reply.handle a0),a0_3]) rfl rfl) ?_
 intro b1 hb1
 refine DL.pu 2 (str zU) rfl (p_assign rfl rfl) ?_
 refine DL.nil ?_
 refine TT.sq rfl ?_
 refine TT.rgD [0,1,2,3,4,5,6,7,8,9,10,11,12,13,14] [0,1,3,7,0,16,55,127,255,0,512,1536,3703,8191,16383] [kp,(.look,some 0),kq,kp,kp,(.look,some 0),kq,kp,kp,kp,(.look,some 0),kp,kq,kp,kp] rfl mixed (by kernel_rfl) ?_
 intro w2 hl2 hj2 hz2
 refine DL.pu 5 (ptr b1 0) rfl (p_fieldAddr ty_f62_0 rfl rfl) ?_
 refine DL.look (v:=.int .u64 (Reply.num a0)) (x:=0) (b:=b1) (i:=1) rfl (Wn.none rfl) rfl rfl rfl rfl rfl (List.mem_of_getElem? (i:=0) rfl) (b_load ty_a24 rfl rfl rfl) ?_
 obtain ⟨g3,h4⟩:=req_some h
 obtain ⟨g5,h6⟩:=req_some h4
 obtain ⟨t7,e8,h9⟩:=nm_some h6
 refine DL.qu 7 (str t7) rfl (by rw [e8]; exact f_callR rfl rfl (args_val (vs:=[.int .u64 (Reply.num a0),.int .i64 10]) rfl) (fun w => enter67 _ w) (fun w hc => futoa_ok hG _ g3 g5 w (hE.ext hc))) ?_
 obtain ⟨g10,h11⟩:=req_some h9
 refine DL.pu 8 (str (t7 ++ [32])) rfl (p_strAdd g10 rfl rfl rfl) ?_
 refine DL.pu 9 (ptr b1 1) rfl (p_fieldAddr ty_f62_1 rfl rfl) ?_
 refine DL.look (v:=.int .i64 (Reply.code a0)) (x:=0) (b:=b1) (i:=5) rfl (Wn.none rfl) rfl rfl rfl rfl rfl (List.mem_of_getElem? (i:=0) rfl) (b_load ty_a3 rfl rfl rfl) ?_
 obtain ⟨g12,h13⟩:=req_some h11
 obtain ⟨g14,h15⟩:=req_some h13
 obtain ⟨t16,e17,h18⟩:=nm_some h15
 refine DL.qu 11 (str t16) rfl (by rw [e17]; exact f_callR rfl rfl (args_val (vs:=[.int .i64 (Reply.code a0)]) rfl) (fun w => enter63 _ w) (fun w hc => itoa_ok hG _ g12 g14 w (hE.ext hc))) ?_
 obtain ⟨g19,h20⟩:=req_some h18
 refine DL.pu 12 (str ((t7 ++ [32]) ++ t16)) rfl (p_strAdd g19 rfl rfl rfl) ?_
 obtain ⟨g21,h22⟩:=req_some h20
 refine DL.pu 13 (str (((t7 ++ [32]) ++ t16) ++ [32])) rfl (p_strAdd g21 rfl rfl rfl) ?_
 refine DL.pu 14 (ptr b1 2) rfl (p_fieldAddr ty_f62_2 rfl rfl) ?_
 refine DL.look (v:=.int .u32 (Reply.handle a0)) (x:=0) (b:=b1) (i:=10) rfl (Wn.none rfl) rfl rfl rfl rfl rfl (List.mem_of_getElem? (i:=0) rfl) (b_load ty_a28 rfl rfl rfl) ?_
 refine DL.pu 16 (.int .i64 (IntKind.i64.wrap (Reply.handle a0))) rfl (p_conv ty_u28 ty_u3 ⟨_,rfl⟩ rfl rfl) ?_
 obtain ⟨g23,h24⟩:=req_some h22
 obtain ⟨g25,h26⟩:=req_some h24
 obtain ⟨t27,e28,h29⟩:=nm_some h26
 refine DL.qu 17 (str t27) rfl (by rw [e28]; exact f_callR rfl rfl (args_val (vs:=[.int .i64 (IntKind.i64.wrap (Reply.handle a0))]) rfl) (fun w => enter63 _ w) (fun w hc => itoa_ok hG _ g23 g25 w (hE.ext hc))) ?_
 obtain ⟨g30,h31⟩:=req_some h29
 refine DL.pu 18 (str ((((t7 ++ [32]) ++ t16) ++ [32]) ++ t27)) rfl (p_strAdd g30 rfl rfl rfl) ?_
 refine DL.pu 3 (str ((((t7 ++ [32]) ++ t16) ++ [32]) ++ t27)) rfl (p_assign rfl rfl) ?_
 refine DL.nil' hl2 ?_
 refine TT.sq rfl ?_
 refine TT.sq rfl ?_
 refine TT.rg [0] [kp] rfl rfl ?_
 refine DL.pu 4 (.int .i64 0) rfl (p_assign rfl rfl) ?_
 refine DL.nil ?_
 refine TT.bk rfl ?_
 refine TT.lp rfl ?_
 obtain ⟨z3_102,h124,h125⟩:=bind_some h31
 refine TT.weak (ref31_ReplyText.L0_ok a0 a0_3 b1 hE hr_a0_3 (((Reply.parts a0).length : Int).toNat + 1) ((((t7 ++ [32]) ++ t16) ++ [32]) ++ t27) 0 z3_102 h124 ( ?_)) (Sub.cons rfl (Sub.cons rfl (Sub.cons rfl (Sub.nil _))))
 refine TT.sq rfl ?_
 refine TT.rg [0,1] [kp,kp] rfl rfl ?_
 refine DL.mv 35 (str z3_102) rfl rfl rfl ?_
 refine DL.pu 2 (str z3_102) rfl (p_assign rfl rfl) ?_
 refine DL.nil ?_
 obtain rfl:=Option.some.inj h125
 exact retnE (rs:=[.tmp 2]) (vs:=[str z3_102]) hE.base Tryz.func26 rfl rfl rfl (res_cons (ResV.tmp rfl) res_nil) rfl
theorem ref31_ReplyText.val {a0 : Reply} {a0_3 : Value} {r : List UInt8} (h : ref31_ReplyText.f a0 = some r) {M : Mem} (w : World) (hM : Ext M (heapOf w)) (hG : Glob M) (hr_a0_3 : RowS (Sh.ints .u8) M a0_3 (Reply.parts a0)) : Calls Tryz.prog 26 #[.agg #[.int .u64 (Reply.num a0),.int .i64 (Reply.code a0),.int .u32 (Reply.handle a0),a0_3]] w fun e w' => e = .returned (str r) ∧ Below w.heap.size w w' :=
 calls_value (ref31_ReplyText.ok h w hM hG hr_a0_3)

/-! ### escutcheon/script.forms: function 34 -/
noncomputable def B34 : Code:=bodyOf Tryz.f34
def script_forms.f : Option (Unit):=some ()
set_option maxRecDepth 20000 in
theorem script_forms.ok (h : script_forms.f = some ()) {M : Mem} (w : World) (hM : Ext M (heapOf w)) : Calls Tryz.prog 34 #[] w (PostF (G:=Nat) (fun g => .map (some g)) (fun g M_ => (M_ g = some SFormsO)) M w):=by
 unfold script_forms.f at h
 have hE:=Env.start hM
 refine calls_of_TT (N:=17) (S:=[]) (c:=B34) Tryz.func34 rfl rfl rfl (by simp) ?_
 show TT _ _ _ _ _ _ [.code (sub [] B34)] _ _
 refine TT.sq rfl ?_
 refine TT.rg [0] [kp] rfl rfl ?_
 refine DL.pu 0 (.map none) rfl (p_assign rfl rfl) ?_
 refine DL.nil ?_
 refine TT.sq rfl ?_
 refine TT.rg [0,1,2,3,4,5,6,7,8,9,10,11,12,13,14,15,16,17,18,19,20,21,22,23,24,25,26,27,28,29,30] [kA,kp,kS,kp,kS,kp,kS,kp,kS,kp,kS,kp,kS,kp,kS,kp,kS,kp,kS,kp,kS,kp,kS,kp,kS,kp,kS,kp,kS,kp,kp] rfl rfl ?_
 refine DL.new (ob:=mobj .i64 []) (mk:=fun b => .map (some b)) (i:=0) rfl (Wn.none rfl) rfl rfl rfl (f_makeMap rfl) ?_
 intro b1 hb1
 refine DL.pu 2 (.agg #[str [104,101,108,108,111],str [99,102]]) rfl (p_build (vs:=[(0,str [104,101,108,108,111]),(1,str [99,102])]) (fun w => by kernel_rfl) rfl rfl) ?_
 refine DL.put (H':=[(some b1,mobj .i64 [(1,.agg #[str [104,101,108,108,111],str [99,102]])])]) (i:=2) rfl (Wn.none rfl) rfl rfl (f_insert (l:=[]) (a:=1) (v:=.agg #[str [104,101,108,108,111],str [99,102]]) (j:=0) ty_u79 ty_u23 rfl rfl rfl rfl rfl rfl) (keep_none rfl) ?_
 refine DL.pu 3 (.agg #[str [115,101,110,100],str [99,109]]) rfl (p_build (vs:=[(0,str [115,101,110,100]),(1,str [99,109])]) (fun w => by kernel_rfl) rfl rfl) ?_
 refine DL.put (H':=[(some b1,mobj .i64 [(1,.agg #[str [104,101,108,108,111],str [99,102]]),(2,.agg #[str [115,101,110,100],str [99,109]])])]) (i:=4) rfl (Wn.none rfl) rfl rfl (f_insert (l:=[(1,.agg #[str [104,101,108,108,111],str [99,102]])]) (a:=2) (v:=.agg #[str [115,101,110,100],str [99,109]]) (j:=0) ty_u79 ty_u23 rfl rfl rfl rfl rfl rfl) (keep_none rfl) ?_
 refine DL.pu 4 (.agg #[str [114,101,115,101,110,100],str [99]]) rfl (p_build (vs:=[(0,str [114,101,115,101,110,100]),(1,str [99])]) (fun w => by kernel_rfl) rfl rfl) ?_
 refine DL.put (H':=[(some b1,mobj .i64 [(1,.agg #[str [104,101,108,108,111],str [99,102]]),(2,.agg #[str [115,101,110,100],str [99,109]]),(3,.agg #[str [114,101,115,101,110,100],str [99]])])]) (i:=6) rfl (Wn.none rfl) rfl rfl (f_insert (l:=[(1,.agg #[str [104,101,108,108,111],str [99,102]]),(2,.agg #[str [115,101,110,100],str [99,109]])]) (a:=3) (v:=.agg #[str [114,101,115,101,110,100],str [99]]) (j:=0) ty_u79 ty_u23 rfl rfl rfl rfl rfl rfl) (keep_none rfl) ?_
 refine DL.pu 5 (.agg #[str [103,105,118,101],str [110,100]]) rfl (p_build (vs:=[(0,str [103,105,118,101]),(1,str [110,100])]) (fun w => by kernel_rfl) rfl rfl) ?_
 refine DL.put (H':=[(some b1,mobj .i64 [(1,.agg #[str [104,101,108,108,111],str [99,102]]),(2,.agg #[str [115,101,110,100],str [99,109]]),(3,.agg #[str [114,101,115,101,110,100],str [99]]),(4,.agg #[str [103,105,118,101],str [110,100]])])]) (i:=8) rfl (Wn.none rfl) rfl rfl (f_insert (l:=[(1,.agg #[str [104,101,108,108,111],str [99,102]]),(2,.agg #[str [115,101,110,100],str [99,109]]),(3,.agg #[str [114,101,115,101,110,100],str [99]])]) (a:=4) (v:=.agg #[str [103,105,118,101],str [110,100]]) (j:=0) ty_u79 ty_u23 rfl rfl rfl rfl rfl rfl) (keep_none rfl) ?_
 refine DL.pu 6 (.agg #[str [116,97,107,101],str [99,110]]) rfl (p_build (vs:=[(0,str [116,97,107,101]),(1,str [99,110])]) (fun w => by kernel_rfl) rfl rfl) ?_
 refine DL.put (H':=[(some b1,mobj .i64 [(1,.agg #[str [104,101,108,108,111],str [99,102]]),(2,.agg #[str [115,101,110,100],str [99,109]]),(3,.agg #[str [114,101,115,101,110,100],str [99]]),(4,.agg #[str [103,105,118,101],str [110,100]]),(5,.agg #[str [116,97,107,101],str [99,110]])])]) (i:=10) rfl (Wn.none rfl) rfl rfl (f_insert (l:=[(1,.agg #[str [104,101,108,108,111],str [99,102]]),(2,.agg #[str [115,101,110,100],str [99,109]]),(3,.agg #[str [114,101,115,101,110,100],str [99]]),(4,.agg #[str [103,105,118,101],str [110,100]])]) (a:=5) (v:=.agg #[str [116,97,107,101],str [99,110]]) (j:=0) ty_u79 ty_u23 rfl rfl rfl rfl rfl rfl) (keep_none rfl) ?_
 refine DL.pu 7 (.agg #[str [102,111,114,103,101],str [121,100]]) rfl (p_build (vs:=[(0,str [102,111,114,103,101]),(1,str [121,100])]) (fun w => by kernel_rfl) rfl rfl) ?_
 refine DL.put (H':=[(some b1,mobj .i64 [(1,.agg #[str [104,101,108,108,111],str [99,102]]),(2,.agg #[str [115,101,110,100],str [99,109]]),(3,.agg #[str [114,101,115,101,110,100],str [99]]),(4,.agg #[str [103,105,118,101],str [110,100]]),(5,.agg #[str [116,97,107,101],str [99,110]]),(6,.agg #[str [102,111,114,103,101],str [121,100]])])]) (i:=12) rfl (Wn.none rfl) rfl rfl (f_insert (l:=[(1,.agg #[str [104,101,108,108,111],str [99,102]]),(2,.agg #[str [115,101,110,100],str [99,109]]),(3,.agg #[str [114,101,115,101,110,100],str [99]]),(4,.agg #[str [103,105,118,101],str [110,100]]),(5,.agg #[str [116,97,107,101],str [99,110]])]) (a:=6) (v:=.agg #[str [102,111,114,103,101],str [121,100]]) (j:=0) ty_u79 ty_u23 rfl rfl rfl rfl rfl rfl) (keep_none rfl) ?_
 refine DL.pu 8 (.agg #[str [116,117,114,110],str [110,97,98,100]]) rfl (p_build (vs:=[(0,str [116,117,114,110]),(1,str [110,97,98,100])]) (fun w => by kernel_rfl) rfl rfl) ?_
 refine DL.put (H':=[(some b1,mobj .i64 [(1,.agg #[str [104,101,108,108,111],str [99,102]]),(2,.agg #[str [115,101,110,100],str [99,109]]),(3,.agg #[str [114,101,115,101,110,100],str [99]]),(4,.agg #[str [103,105,118,101],str [110,100]]),(5,.agg #[str [116,97,107,101],str [99,110]]),(6,.agg #[str [102,111,114,103,101],str [121,100]]),(7,.agg #[str [116,117,114,110],str [110,97,98,100]])])]) (i:=14) rfl (Wn.none rfl) rfl rfl (f_insert (l:=[(1,.agg #[str [104,101,108,108,111],str [99,102]]),(2,.agg #[str [115,101,110,100],str [99,109]]),(3,.agg #[str [114,101,115,101,110,100],str [99]]),(4,.agg #[str [103,105,118,101],str [110,100]]),(5,.agg #[str [116,97,107,101],str [99,110]]),(6,.agg #[str [102,111,114,103,101],str [121,100]])]) (a:=7) (v:=.agg #[str [116,117,114,110],str [110,97,98,100]]) (j:=0) ty_u79 ty_u23 rfl rfl rfl rfl rfl rfl) (keep_none rfl) ?_
 refine DL.pu 9 (.agg #[str [116,105,99,107],str [116]]) rfl (p_build (vs:=[(0,str [116,105,99,107]),(1,str [116])]) (fun w => by kernel_rfl) rfl rfl) ?_
 refine DL.put (H':=[(some b1,mobj .i64 [(1,.agg #[str [104,101,108,108,111],str [99,102]]),(2,.agg #[str [115,101,110,100],str [99,109]]),(3,.agg #[str [114,101,115,101,110,100],str [99]]),(4,.agg #[str [103,105,118,101],str [110,100]]),(5,.agg #[str [116,97,107,101],str [99,110]]),(6,.agg #[str [102,111,114,103,101],str [121,100]]),(7,.agg #[str [116,117,114,110],str [110,97,98,100]]),(8,.agg #[str [116,105,99,107],str [116]])])]) (i:=16) rfl (Wn.none rfl) rfl rfl (f_insert (l:=[(1,.agg #[str [104,101,108,108,111],str [99,102]]),(2,.agg #[str [115,101,110,100],str [99,109]]),(3,.agg #[str [114,101,115,101,110,100],str [99]]),(4,.agg #[str [103,105,118,101],str [110,100]]),(5,.agg #[str [116,97,107,101],str [99,110]]),(6,.agg #[str [102,111,114,103,101],str [121,100]]),(7,.agg #[str [116,117,114,110],str [110,97,98,100]])]) (a:=8) (v:=.agg #[str [116,105,99,107],str [116]]) (j:=0) ty_u79 ty_u23 rfl rfl rfl rfl rfl rfl) (keep_none rfl) ?_
 refine DL.pu 10 (.agg #[str [102,117,115,101],str [110]]) rfl (p_build (vs:=[(0,str [102,117,115,101]),(1,str [110])]) (fun w => by kernel_rfl) rfl rfl) ?_
 refine DL.put (H':=[(some b1,mobj .i64 [(1,.agg #[str [104,101,108,108,111],str [99,102]]),(2,.agg #[str [115,101,110,100],str [99,109]]),(3,.agg #[str [114,101,115,101,110,100],str [99]]),(4,.agg #[str [103,105,118,101],str [110,100]]),(5,.agg #[str [116,97,107,101],str [99,110]]),(6,.agg #[str [102,111,114,103,101],str [121,100]]),(7,.agg #[str [116,117,114,110],str [110,97,98,100]]),(8,.agg #[str [116,105,99,107],str [116]]),(9,.agg #[str [102,117,115,101],str [110]])])]) (i:=18) rfl (Wn.none rfl) rfl rfl (f_insert (l:=[(1,.agg #[str [104,101,108,108,111],str [99,102]]),(2,.agg #[str [115,101,110,100],str [99,109]]),(3,.agg #[str [114,101,115,101,110,100],str [99]]),(4,.agg #[str [103,105,118,101],str [110,100]]),(5,.agg #[str [116,97,107,101],str [99,110]]),(6,.agg #[str [102,111,114,103,101],str [121,100]]),(7,.agg #[str [116,117,114,110],str [110,97,98,100]]),(8,.agg #[str [116,105,99,107],str [116]])]) (a:=9) (v:=.agg #[str [102,117,115,101],str [110]]) (j:=0) ty_u79 ty_u23 rfl rfl rfl rfl rfl rfl) (keep_none rfl) ?_
 refine DL.pu 11 (.agg #[str [99,114,97,115,104],str [112]]) rfl (p_build (vs:=[(0,str [99,114,97,115,104]),(1,str [112])]) (fun w => by kernel_rfl) rfl rfl) ?_
 refine DL.put (H':=[(some b1,mobj .i64 [(1,.agg #[str [104,101,108,108,111],str [99,102]]),(2,.agg #[str [115,101,110,100],str [99,109]]),(3,.agg #[str [114,101,115,101,110,100],str [99]]),(4,.agg #[str [103,105,118,101],str [110,100]]),(5,.agg #[str [116,97,107,101],str [99,110]]),(6,.agg #[str [102,111,114,103,101],str [121,100]]),(7,.agg #[str [116,117,114,110],str [110,97,98,100]]),(8,.agg #[str [116,105,99,107],str [116]]),(9,.agg #[str [102,117,115,101],str [110]]),(10,.agg #[str [99,114,97,115,104],str [112]])])]) (i:=20) rfl (Wn.none rfl) rfl rfl (f_insert (l:=[(1,.agg #[str [104,101,108,108,111],str [99,102]]),(2,.agg #[str [115,101,110,100],str [99,109]]),(3,.agg #[str [114,101,115,101,110,100],str [99]]),(4,.agg #[str [103,105,118,101],str [110,100]]),(5,.agg #[str [116,97,107,101],str [99,110]]),(6,.agg #[str [102,111,114,103,101],str [121,100]]),(7,.agg #[str [116,117,114,110],str [110,97,98,100]]),(8,.agg #[str [116,105,99,107],str [116]]),(9,.agg #[str [102,117,115,101],str [110]])]) (a:=10) (v:=.agg #[str [99,114,97,115,104],str [112]]) (j:=0) ty_u79 ty_u23 rfl rfl rfl rfl rfl rfl) (keep_none rfl) ?_
 refine DL.pu 12 (.agg #[str [117,112],str zU]) rfl (p_build (vs:=[(0,str [117,112]),(1,str zU)]) (fun w => by kernel_rfl) rfl rfl) ?_
 refine DL.put (H':=[(some b1,mobj .i64 [(1,.agg #[str [104,101,108,108,111],str [99,102]]),(2,.agg #[str [115,101,110,100],str [99,109]]),(3,.agg #[str [114,101,115,101,110,100],str [99]]),(4,.agg #[str [103,105,118,101],str [110,100]]),(5,.agg #[str [116,97,107,101],str [99,110]]),(6,.agg #[str [102,111,114,103,101],str [121,100]]),(7,.agg #[str [116,117,114,110],str [110,97,98,100]]),(8,.agg #[str [116,105,99,107],str [116]]),(9,.agg #[str [102,117,115,101],str [110]]),(10,.agg #[str [99,114,97,115,104],str [112]]),(11,.agg #[str [117,112],str zU])])]) (i:=22) rfl (Wn.none rfl) rfl rfl (f_insert (l:=[(1,.agg #[str [104,101,108,108,111],str [99,102]]),(2,.agg #[str [115,101,110,100],str [99,109]]),(3,.agg #[str [114,101,115,101,110,100],str [99]]),(4,.agg #[str [103,105,118,101],str [110,100]]),(5,.agg #[str [116,97,107,101],str [99,110]]),(6,.agg #[str [102,111,114,103,101],str [121,100]]),(7,.agg #[str [116,117,114,110],str [110,97,98,100]]),(8,.agg #[str [116,105,99,107],str [116]]),(9,.agg #[str [102,117,115,101],str [110]]),(10,.agg #[str [99,114,97,115,104],str [112]])]) (a:=11) (v:=.agg #[str [117,112],str zU]) (j:=0) ty_u79 ty_u23 rfl rfl rfl rfl rfl rfl) (keep_none rfl) ?_
 refine DL.pu 13 (.agg #[str [101,100,105,116],str [110,97,98]]) rfl (p_build (vs:=[(0,str [101,100,105,116]),(1,str [110,97,98])]) (fun w => by kernel_rfl) rfl rfl) ?_
 refine DL.put (H':=[(some b1,mobj .i64 [(1,.agg #[str [104,101,108,108,111],str [99,102]]),(2,.agg #[str [115,101,110,100],str [99,109]]),(3,.agg #[str [114,101,115,101,110,100],str [99]]),(4,.agg #[str [103,105,118,101],str [110,100]]),(5,.agg #[str [116,97,107,101],str [99,110]]),(6,.agg #[str [102,111,114,103,101],str [121,100]]),(7,.agg #[str [116,117,114,110],str [110,97,98,100]]),(8,.agg #[str [116,105,99,107],str [116]]),(9,.agg #[str [102,117,115,101],str [110]]),(10,.agg #[str [99,114,97,115,104],str [112]]),(11,.agg #[str [117,112],str zU]),(12,.agg #[str [101,100,105,116],str [110,97,98]])])]) (i:=24) rfl (Wn.none rfl) rfl rfl (f_insert (l:=[(1,.agg #[str [104,101,108,108,111],str [99,102]]),(2,.agg #[str [115,101,110,100],str [99,109]]),(3,.agg #[str [114,101,115,101,110,100],str [99]]),(4,.agg #[str [103,105,118,101],str [110,100]]),(5,.agg #[str [116,97,107,101],str [99,110]]),(6,.agg #[str [102,111,114,103,101],str [121,100]]),(7,.agg #[str [116,117,114,110],str [110,97,98,100]]),(8,.agg #[str [116,105,99,107],str [116]]),(9,.agg #[str [102,117,115,101],str [110]]),(10,.agg #[str [99,114,97,115,104],str [112]]),(11,.agg #[str [117,112],str zU])]) (a:=12) (v:=.agg #[str [101,100,105,116],str [110,97,98]]) (j:=0) ty_u79 ty_u23 rfl rfl rfl rfl rfl rfl) (keep_none rfl) ?_
 refine DL.pu 14 (.agg #[str [115,97,118,101],str zU]) rfl (p_build (vs:=[(0,str [115,97,118,101]),(1,str zU)]) (fun w => by kernel_rfl) rfl rfl) ?_
 refine DL.put (H':=[(some b1,mobj .i64 [(1,.agg #[str [104,101,108,108,111],str [99,102]]),(2,.agg #[str [115,101,110,100],str [99,109]]),(3,.agg #[str [114,101,115,101,110,100],str [99]]),(4,.agg #[str [103,105,118,101],str [110,100]]),(5,.agg #[str [116,97,107,101],str [99,110]]),(6,.agg #[str [102,111,114,103,101],str [121,100]]),(7,.agg #[str [116,117,114,110],str [110,97,98,100]]),(8,.agg #[str [116,105,99,107],str [116]]),(9,.agg #[str [102,117,115,101],str [110]]),(10,.agg #[str [99,114,97,115,104],str [112]]),(11,.agg #[str [117,112],str zU]),(12,.agg #[str [101,100,105,116],str [110,97,98]]),(13,.agg #[str [115,97,118,101],str zU])])]) (i:=26) rfl (Wn.none rfl) rfl rfl (f_insert (l:=[(1,.agg #[str [104,101,108,108,111],str [99,102]]),(2,.agg #[str [115,101,110,100],str [99,109]]),(3,.agg #[str [114,101,115,101,110,100],str [99]]),(4,.agg #[str [103,105,118,101],str [110,100]]),(5,.agg #[str [116,97,107,101],str [99,110]]),(6,.agg #[str [102,111,114,103,101],str [121,100]]),(7,.agg #[str [116,117,114,110],str [110,97,98,100]]),(8,.agg #[str [116,105,99,107],str [116]]),(9,.agg #[str [102,117,115,101],str [110]]),(10,.agg #[str [99,114,97,115,104],str [112]]),(11,.agg #[str [117,112],str zU]),(12,.agg #[str [101,100,105,116],str [110,97,98]])]) (a:=13) (v:=.agg #[str [115,97,118,101],str zU]) (j:=0) ty_u79 ty_u23 rfl rfl rfl rfl rfl rfl) (keep_none rfl) ?_
 refine DL.pu 15 (.agg #[str [98,97,99,107],str [110]]) rfl (p_build (vs:=[(0,str [98,97,99,107]),(1,str [110])]) (fun w => by kernel_rfl) rfl rfl) ?_
 refine DL.put (H':=[(some b1,mobj .i64 [(1,.agg #[str [104,101,108,108,111],str [99,102]]),(2,.agg #[str [115,101,110,100],str [99,109]]),(3,.agg #[str [114,101,115,101,110,100],str [99]]),(4,.agg #[str [103,105,118,101],str [110,100]]),(5,.agg #[str [116,97,107,101],str [99,110]]),(6,.agg #[str [102,111,114,103,101],str [121,100]]),(7,.agg #[str [116,117,114,110],str [110,97,98,100]]),(8,.agg #[str [116,105,99,107],str [116]]),(9,.agg #[str [102,117,115,101],str [110]]),(10,.agg #[str [99,114,97,115,104],str [112]]),(11,.agg #[str [117,112],str zU]),(12,.agg #[str [101,100,105,116],str [110,97,98]]),(13,.agg #[str [115,97,118,101],str zU]),(14,.agg #[str [98,97,99,107],str [110]])])]) (i:=28) rfl (Wn.none rfl) rfl rfl (f_insert (l:=[(1,.agg #[str [104,101,108,108,111],str [99,102]]),(2,.agg #[str [115,101,110,100],str [99,109]]),(3,.agg #[str [114,101,115,101,110,100],str [99]]),(4,.agg #[str [103,105,118,101],str [110,100]]),(5,.agg #[str [116,97,107,101],str [99,110]]),(6,.agg #[str [102,111,114,103,101],str [121,100]]),(7,.agg #[str [116,117,114,110],str [110,97,98,100]]),(8,.agg #[str [116,105,99,107],str [116]]),(9,.agg #[str [102,117,115,101],str [110]]),(10,.agg #[str [99,114,97,115,104],str [112]]),(11,.agg #[str [117,112],str zU]),(12,.agg #[str [101,100,105,116],str [110,97,98]]),(13,.agg #[str [115,97,118,101],str zU])]) (a:=14) (v:=.agg #[str [98,97,99,107],str [110]]) (j:=0) ty_u79 ty_u23 rfl rfl rfl rfl rfl rfl) (keep_none rfl) ?_
 refine DL.mv 16 (.map (some b1)) rfl rfl rfl ?_
 refine DL.pu 0 (.map (some b1)) rfl (p_assign rfl rfl) ?_
 refine DL.nil ?_
 refine TT.freezeAt (j:=0) hE rfl ?_
 intro M2 I2 hE2 hx2 hxI2 hb2
 have hm_2 : M2 b1 = some SFormsO:=hb2 _ rfl
 show TT _ _ _ _ _ _ _ _ []
 simp only [Option.some.injEq,Prod.mk.injEq] at h
 obtain ⟨⟩:=h
 exact retF (rs:=[.tmp 0]) (vs:=[.map (some b1)]) b1 hE2 Tryz.func34 rfl rfl rfl (res_cons (ResV.tmp rfl) res_nil) hm_2

/-! ### escutcheon/frame.names: function 89 -/
noncomputable def B89 : Code:=bodyOf Tryz.f89
def frame_names.f : Option (Unit):=some ()
set_option maxRecDepth 20000 in
theorem frame_names.ok (h : frame_names.f = some ()) {M : Mem} (w : World) (hM : Ext M (heapOf w)) : Calls Tryz.prog 89 #[] w (PostF (G:=Nat) (fun g => .map (some g)) (fun g M_ => (M_ g = some FNamesO)) M w):=by
 unfold frame_names.f at h
 have hE:=Env.start hM
 refine calls_of_TT (N:=16) (S:=[]) (c:=B89) Tryz.func89 rfl rfl rfl (by simp) ?_
 show TT _ _ _ _ _ _ [.code (sub [] B89)] _ _
 refine TT.sq rfl ?_
 refine TT.rg [0] [kp] rfl rfl ?_
 refine DL.pu 0 (.map none) rfl (p_assign rfl rfl) ?_
 refine DL.nil ?_
 refine TT.sq rfl ?_
 refine TT.rg [0,1,2,3,4,5,6,7,8,9,10,11,12,13,14,15,16,17,18,19,20,21,22,23,24,25,26,27,28] [kA,kp,kS,kp,kS,kp,kS,kp,kS,kp,kS,kp,kS,kp,kS,kp,kS,kp,kS,kp,kS,kp,kS,kp,kS,kp,kS,kp,kp] rfl rfl ?_
 refine DL.new (ob:=mobj .i64 []) (mk:=fun b => .map (some b)) (i:=0) rfl (Wn.none rfl) rfl rfl rfl (f_makeMap rfl) ?_
 intro b1 hb1
 refine DL.pu 2 (.agg #[str [116,97]]) rfl (p_build (vs:=[(0,str [116,97])]) (fun w => by kernel_rfl) rfl rfl) ?_
 refine DL.put (H':=[(some b1,mobj .i64 [(1,.agg #[str [116,97]])])]) (i:=2) rfl (Wn.none rfl) rfl rfl (f_insert (l:=[]) (a:=1) (v:=.agg #[str [116,97]]) (j:=0) ty_u126 ty_u27 rfl rfl rfl rfl rfl rfl) (keep_none rfl) ?_
 refine DL.pu 3 (.agg #[str [116,97,107]]) rfl (p_build (vs:=[(0,str [116,97,107])]) (fun w => by kernel_rfl) rfl rfl) ?_
 refine DL.put (H':=[(some b1,mobj .i64 [(1,.agg #[str [116,97]]),(2,.agg #[str [116,97,107]])])]) (i:=4) rfl (Wn.none rfl) rfl rfl (f_insert (l:=[(1,.agg #[str [116,97]])]) (a:=2) (v:=.agg #[str [116,97,107]]) (j:=0) ty_u126 ty_u27 rfl rfl rfl rfl rfl rfl) (keep_none rfl) ?_
 refine DL.pu 4 (.agg #[str [104]]) rfl (p_build (vs:=[(0,str [104])]) (fun w => by kernel_rfl) rfl rfl) ?_
 refine DL.put (H':=[(some b1,mobj .i64 [(1,.agg #[str [116,97]]),(2,.agg #[str [116,97,107]]),(3,.agg #[str [104]])])]) (i:=6) rfl (Wn.none rfl) rfl rfl (f_insert (l:=[(1,.agg #[str [116,97]]),(2,.agg #[str [116,97,107]])]) (a:=3) (v:=.agg #[str [104]]) (j:=0) ty_u126 ty_u27 rfl rfl rfl rfl rfl rfl) (keep_none rfl) ?_
 refine DL.pu 5 (.agg #[str [104]]) rfl (p_build (vs:=[(0,str [104])]) (fun w => by kernel_rfl) rfl rfl) ?_
 refine DL.put (H':=[(some b1,mobj .i64 [(1,.agg #[str [116,97]]),(2,.agg #[str [116,97,107]]),(3,.agg #[str [104]]),(4,.agg #[str [104]])])]) (i:=8) rfl (Wn.none rfl) rfl rfl (f_insert (l:=[(1,.agg #[str [116,97]]),(2,.agg #[str [116,97,107]]),(3,.agg #[str [104]])]) (a:=4) (v:=.agg #[str [104]]) (j:=0) ty_u126 ty_u27 rfl rfl rfl rfl rfl rfl) (keep_none rfl) ?_
 refine DL.pu 6 (.agg #[str [104,100]]) rfl (p_build (vs:=[(0,str [104,100])]) (fun w => by kernel_rfl) rfl rfl) ?_
 refine DL.put (H':=[(some b1,mobj .i64 [(1,.agg #[str [116,97]]),(2,.agg #[str [116,97,107]]),(3,.agg #[str [104]]),(4,.agg #[str [104]]),(5,.agg #[str [104,100]])])]) (i:=10) rfl (Wn.none rfl) rfl rfl (f_insert (l:=[(1,.agg #[str [116,97]]),(2,.agg #[str [116,97,107]]),(3,.agg #[str [104]]),(4,.agg #[str [104]])]) (a:=5) (v:=.agg #[str [104,100]]) (j:=0) ty_u126 ty_u27 rfl rfl rfl rfl rfl rfl) (keep_none rfl) ?_
 refine DL.pu 7 (.agg #[str [104,111]]) rfl (p_build (vs:=[(0,str [104,111])]) (fun w => by kernel_rfl) rfl rfl) ?_
 refine DL.put (H':=[(some b1,mobj .i64 [(1,.agg #[str [116,97]]),(2,.agg #[str [116,97,107]]),(3,.agg #[str [104]]),(4,.agg #[str [104]]),(5,.agg #[str [104,100]]),(6,.agg #[str [104,111]])])]) (i:=12) rfl (Wn.none rfl) rfl rfl (f_insert (l:=[(1,.agg #[str [116,97]]),(2,.agg #[str [116,97,107]]),(3,.agg #[str [104]]),(4,.agg #[str [104]]),(5,.agg #[str [104,100]])]) (a:=6) (v:=.agg #[str [104,111]]) (j:=0) ty_u126 ty_u27 rfl rfl rfl rfl rfl rfl) (keep_none rfl) ?_
 refine DL.pu 8 (.agg #[str [104,97,100]]) rfl (p_build (vs:=[(0,str [104,97,100])]) (fun w => by kernel_rfl) rfl rfl) ?_
 refine DL.put (H':=[(some b1,mobj .i64 [(1,.agg #[str [116,97]]),(2,.agg #[str [116,97,107]]),(3,.agg #[str [104]]),(4,.agg #[str [104]]),(5,.agg #[str [104,100]]),(6,.agg #[str [104,111]]),(7,.agg #[str [104,97,100]])])]) (i:=14) rfl (Wn.none rfl) rfl rfl (f_insert (l:=[(1,.agg #[str [116,97]]),(2,.agg #[str [116,97,107]]),(3,.agg #[str [104]]),(4,.agg #[str [104]]),(5,.agg #[str [104,100]]),(6,.agg #[str [104,111]])]) (a:=7) (v:=.agg #[str [104,97,100]]) (j:=0) ty_u126 ty_u27 rfl rfl rfl rfl rfl rfl) (keep_none rfl) ?_
 refine DL.pu 9 (.agg #[str [104,116,97,100]]) rfl (p_build (vs:=[(0,str [104,116,97,100])]) (fun w => by kernel_rfl) rfl rfl) ?_
 refine DL.put (H':=[(some b1,mobj .i64 [(1,.agg #[str [116,97]]),(2,.agg #[str [116,97,107]]),(3,.agg #[str [104]]),(4,.agg #[str [104]]),(5,.agg #[str [104,100]]),(6,.agg #[str [104,111]]),(7,.agg #[str [104,97,100]]),(8,.agg #[str [104,116,97,100]])])]) (i:=16) rfl (Wn.none rfl) rfl rfl (f_insert (l:=[(1,.agg #[str [116,97]]),(2,.agg #[str [116,97,107]]),(3,.agg #[str [104]]),(4,.agg #[str [104]]),(5,.agg #[str [104,100]]),(6,.agg #[str [104,111]]),(7,.agg #[str [104,97,100]])]) (a:=8) (v:=.agg #[str [104,116,97,100]]) (j:=0) ty_u126 ty_u27 rfl rfl rfl rfl rfl rfl) (keep_none rfl) ?_
 refine DL.pu 10 (.agg #[str [104]]) rfl (p_build (vs:=[(0,str [104])]) (fun w => by kernel_rfl) rfl rfl) ?_
 refine DL.put (H':=[(some b1,mobj .i64 [(1,.agg #[str [116,97]]),(2,.agg #[str [116,97,107]]),(3,.agg #[str [104]]),(4,.agg #[str [104]]),(5,.agg #[str [104,100]]),(6,.agg #[str [104,111]]),(7,.agg #[str [104,97,100]]),(8,.agg #[str [104,116,97,100]]),(9,.agg #[str [104]])])]) (i:=18) rfl (Wn.none rfl) rfl rfl (f_insert (l:=[(1,.agg #[str [116,97]]),(2,.agg #[str [116,97,107]]),(3,.agg #[str [104]]),(4,.agg #[str [104]]),(5,.agg #[str [104,100]]),(6,.agg #[str [104,111]]),(7,.agg #[str [104,97,100]]),(8,.agg #[str [104,116,97,100]])]) (a:=9) (v:=.agg #[str [104]]) (j:=0) ty_u126 ty_u27 rfl rfl rfl rfl rfl rfl) (keep_none rfl) ?_
 refine DL.pu 11 (.agg #[str [104,97]]) rfl (p_build (vs:=[(0,str [104,97])]) (fun w => by kernel_rfl) rfl rfl) ?_
 refine DL.put (H':=[(some b1,mobj .i64 [(1,.agg #[str [116,97]]),(2,.agg #[str [116,97,107]]),(3,.agg #[str [104]]),(4,.agg #[str [104]]),(5,.agg #[str [104,100]]),(6,.agg #[str [104,111]]),(7,.agg #[str [104,97,100]]),(8,.agg #[str [104,116,97,100]]),(9,.agg #[str [104]]),(10,.agg #[str [104,97]])])]) (i:=20) rfl (Wn.none rfl) rfl rfl (f_insert (l:=[(1,.agg #[str [116,97]]),(2,.agg #[str [116,97,107]]),(3,.agg #[str [104]]),(4,.agg #[str [104]]),(5,.agg #[str [104,100]]),(6,.agg #[str [104,111]]),(7,.agg #[str [104,97,100]]),(8,.agg #[str [104,116,97,100]]),(9,.agg #[str [104]])]) (a:=10) (v:=.agg #[str [104,97]]) (j:=0) ty_u126 ty_u27 rfl rfl rfl rfl rfl rfl) (keep_none rfl) ?_
 refine DL.pu 12 (.agg #[str [104]]) rfl (p_build (vs:=[(0,str [104])]) (fun w => by kernel_rfl) rfl rfl) ?_
 refine DL.put (H':=[(some b1,mobj .i64 [(1,.agg #[str [116,97]]),(2,.agg #[str [116,97,107]]),(3,.agg #[str [104]]),(4,.agg #[str [104]]),(5,.agg #[str [104,100]]),(6,.agg #[str [104,111]]),(7,.agg #[str [104,97,100]]),(8,.agg #[str [104,116,97,100]]),(9,.agg #[str [104]]),(10,.agg #[str [104,97]]),(11,.agg #[str [104]])])]) (i:=22) rfl (Wn.none rfl) rfl rfl (f_insert (l:=[(1,.agg #[str [116,97]]),(2,.agg #[str [116,97,107]]),(3,.agg #[str [104]]),(4,.agg #[str [104]]),(5,.agg #[str [104,100]]),(6,.agg #[str [104,111]]),(7,.agg #[str [104,97,100]]),(8,.agg #[str [104,116,97,100]]),(9,.agg #[str [104]]),(10,.agg #[str [104,97]])]) (a:=11) (v:=.agg #[str [104]]) (j:=0) ty_u126 ty_u27 rfl rfl rfl rfl rfl rfl) (keep_none rfl) ?_
 refine DL.pu 13 (.agg #[str [104,100]]) rfl (p_build (vs:=[(0,str [104,100])]) (fun w => by kernel_rfl) rfl rfl) ?_
 refine DL.put (H':=[(some b1,mobj .i64 [(1,.agg #[str [116,97]]),(2,.agg #[str [116,97,107]]),(3,.agg #[str [104]]),(4,.agg #[str [104]]),(5,.agg #[str [104,100]]),(6,.agg #[str [104,111]]),(7,.agg #[str [104,97,100]]),(8,.agg #[str [104,116,97,100]]),(9,.agg #[str [104]]),(10,.agg #[str [104,97]]),(11,.agg #[str [104]]),(12,.agg #[str [104,100]])])]) (i:=24) rfl (Wn.none rfl) rfl rfl (f_insert (l:=[(1,.agg #[str [116,97]]),(2,.agg #[str [116,97,107]]),(3,.agg #[str [104]]),(4,.agg #[str [104]]),(5,.agg #[str [104,100]]),(6,.agg #[str [104,111]]),(7,.agg #[str [104,97,100]]),(8,.agg #[str [104,116,97,100]]),(9,.agg #[str [104]]),(10,.agg #[str [104,97]]),(11,.agg #[str [104]])]) (a:=12) (v:=.agg #[str [104,100]]) (j:=0) ty_u126 ty_u27 rfl rfl rfl rfl rfl rfl) (keep_none rfl) ?_
 refine DL.pu 14 (.agg #[str [104,100]]) rfl (p_build (vs:=[(0,str [104,100])]) (fun w => by kernel_rfl) rfl rfl) ?_
 refine DL.put (H':=[(some b1,mobj .i64 [(1,.agg #[str [116,97]]),(2,.agg #[str [116,97,107]]),(3,.agg #[str [104]]),(4,.agg #[str [104]]),(5,.agg #[str [104,100]]),(6,.agg #[str [104,111]]),(7,.agg #[str [104,97,100]]),(8,.agg #[str [104,116,97,100]]),(9,.agg #[str [104]]),(10,.agg #[str [104,97]]),(11,.agg #[str [104]]),(12,.agg #[str [104,100]]),(13,.agg #[str [104,100]])])]) (i:=26) rfl (Wn.none rfl) rfl rfl (f_insert (l:=[(1,.agg #[str [116,97]]),(2,.agg #[str [116,97,107]]),(3,.agg #[str [104]]),(4,.agg #[str [104]]),(5,.agg #[str [104,100]]),(6,.agg #[str [104,111]]),(7,.agg #[str [104,97,100]]),(8,.agg #[str [104,116,97,100]]),(9,.agg #[str [104]]),(10,.agg #[str [104,97]]),(11,.agg #[str [104]]),(12,.agg #[str [104,100]])]) (a:=13) (v:=.agg #[str [104,100]]) (j:=0) ty_u126 ty_u27 rfl rfl rfl rfl rfl rfl) (keep_none rfl) ?_
 refine DL.mv 15 (.map (some b1)) rfl rfl rfl ?_
 refine DL.pu 0 (.map (some b1)) rfl (p_assign rfl rfl) ?_
 refine DL.nil ?_
 refine TT.freezeAt (j:=0) hE rfl ?_
 intro M2 I2 hE2 hx2 hxI2 hb2
 have hm_2 : M2 b1 = some FNamesO:=hb2 _ rfl
 show TT _ _ _ _ _ _ _ _ []
 simp only [Option.some.injEq,Prod.mk.injEq] at h
 obtain ⟨⟩:=h
 exact retF (rs:=[.tmp 0]) (vs:=[.map (some b1)]) b1 hE2 Tryz.func89 rfl rfl rfl (res_cons (ResV.tmp rfl) res_nil) hm_2

/-! ### escutcheon/frame.Names: function 48 -/
noncomputable def B48 : Code:=bodyOf Tryz.f48
def frame_Names.f (a0 : Int) : Option ((List UInt8)):=(frame_names.f).bind fun _ => some (fnS a0)
set_option maxRecDepth 20000 in
theorem frame_Names.ok {a0 : Int} {r : List UInt8} (h : frame_Names.f a0 = some r) {M : Mem} (w : World) (hM : Ext M (heapOf w)) : Calls Tryz.prog 48 #[.int .i64 a0] w (Post (fun u => u = str r) w):=by
 unfold frame_Names.f at h
 have hE:=Env.start hM
 refine calls_of_TT (N:=7) (S:=[(0,.int .i64 a0)]) (c:=B48) Tryz.func48 rfl rfl rfl (by simp) ?_
 show TT _ _ _ _ _ _ [.code (sub [] B48)] _ _
 refine TT.sq rfl ?_
 refine TT.rg [0] [kp] rfl rfl ?_
 refine DL.pu 2 (str zU) rfl (p_assign rfl rfl) ?_
 refine DL.nil ?_
 refine TT.sq rfl ?_
 refine TT.rg [0,1,2,3,4] [kk,kp,kq,kp,kp] rfl rfl ?_
 obtain ⟨_,h2,h3⟩:=bind_some h
 refine DL.callF (G:=Nat) (u:=fun g => .map (some g)) (Q:=fun g M_ => (M_ g = some FNamesO)) (A:=[]) (J:=[]) (fun J4 => (J4)) (Nat.le_refl _) hE.nil (List.append_nil _).symm (fun _ => rfl) (by simp) (i:=0) rfl (Wn.none rfl) rfl rfl rfl rfl rfl rfl (args_val (vs:=[]) rfl) (fun w => enter89 _ w) (fun w hc hI => frame_names.ok h2 (M:=M) w hI ) ?_
 rintro t1_m M4 J4 hE4 hx4 hm_t1
 refine DL.mv 4 (.int .i64 a0) rfl rfl rfl ?_
 refine DL.qu 5 (.agg #[str (fnS a0)]) rfl (FImm.quiet (i_lookupM (I:=M4) (a:=a0) ty_u126 ty_u27 ty_z125 hm_t1 (fn_val a0) rfl rfl rfl) (fun w hc => hE4.immJ (A:=[]) hc rfl)) ?_
 refine DL.pu 6 (str (fnS a0)) rfl (p_field (fun w => by kernel_rfl) rfl rfl) ?_
 refine DL.pu 2 (str (fnS a0)) rfl (p_assign rfl rfl) ?_
 refine DL.nil ?_
 refine TT.settle (A:=[]) (J:=J4) hE4 ?_
 intro I5 hE5 hxI5
 obtain rfl:=Option.some.inj h3
 exact retnE (rs:=[.tmp 2]) (vs:=[str (fnS a0)]) hE5.base Tryz.func48 rfl rfl rfl (res_cons (ResV.tmp rfl) res_nil) rfl
theorem frame_Names.val {a0 : Int} {r : List UInt8} (h : frame_Names.f a0 = some r) {M : Mem} (w : World) (hM : Ext M (heapOf w)) : Calls Tryz.prog 48 #[.int .i64 a0] w fun e w' => e = .returned (str r) ∧ Below w.heap.size w w' :=
 calls_value (frame_Names.ok h w hM)

/-! ### slices.Equal[[]byte,byte]: function 99 -/
noncomputable def B99 : Code:=bodyOf Tryz.f99
def slices_Equal_99.L0 (a0 : List Int) (a1 : List Int) : Nat → Int → Option ((Unit) ⊕ (Bool))
 | 0,_ => none
 | k + 1,x13_4 => if (decide (x13_4 < (a0.length : Int))) = true then (req (0 ≤ x13_4) (req (x13_4 < (a0.length : Int)) (req (x13_4 < (a1.length : Int)) (nm ((a0.getD x13_4.toNat 0) != (a1.getD x13_4.toNat 0)) fun t80 => if t80 = true then (some (.inr false)) else (slices_Equal_99.L0 a0 a1 k (IntKind.i64.wrap (x13_4 + 1))))))) else (some (.inl ()))
set_option maxRecDepth 20000 in
theorem slices_Equal_99.L0_ok (a0 : List Int) (a0_v : Value) (a1 : List Int) (a1_v : Value) {r : Bool}  {w0 : World} {M0 M I : Mem} {K : List Item} (hE : Env w0 M0 M I) (hr_a0 : IntRow M .u8 a0_v a0) (hr_a1 : IntRow M .u8 a1_v a1) :
  ∀ (k : Nat) (x13_4 : Int) (q : (Unit) ⊕ (Bool)) (h : slices_Equal_99.L0 a0 a1 k x13_4 = some q) (hk : match (generalizing:=false) q with | .inl () => (TT Tryz.prog 99 (Post (fun u => u = .bool r) w0) 26 w0 I K [] []) | .inr rq => rq = r),
   TT Tryz.prog 99 (Post (fun u => u = .bool r) w0) 26 w0 I (.code (sub [1,1,0,1,0,0] B99) :: .inLoop (sub [1,1,0,1,0,0] B99) :: .inBlock 0 :: K) [(0,a0_v),(1,a1_v),(12,.int .i64 (a0.length : Int)),(13,.int .i64 x13_4)] []:=by
 intro k
 induction k with
 | zero => intro x13_4 q h; simp [slices_Equal_99.L0] at h
 | succ k ih =>
  intro x13_4 q h hk
  unfold slices_Equal_99.L0 at h
  refine TT.sq rfl ?_
  refine TT.rg [0] [kp] rfl rfl ?_
  refine DL.pu 14 (.bool (decide (x13_4 < (a0.length : Int)))) rfl (p_lss rfl rfl rfl) ?_
  refine DL.nil ?_
  refine TT.sq rfl ?_
  by_cases c71 : (decide (x13_4 < (a0.length : Int))) = true
  ·
   have h72:=ite_true c71 h
   refine TT.ct rfl rfl c71 ?_
   refine TT.skip ?_
   refine TT.sq rfl ?_
   refine TT.bk rfl ?_
   refine TT.sq rfl ?_
   refine TT.rg [0,1] [kp,kp] rfl rfl ?_
   refine DL.mv 15 (.int .i64 x13_4) rfl rfl rfl ?_
   refine DL.pu 5 (.int .i64 x13_4) rfl (p_assign rfl rfl) ?_
   refine DL.nil ?_
   refine TT.sq rfl ?_
   refine TT.rgD [0,1,2,3,4,5,6,7,8] [0,0,3,7,0,0,48,112,255] [kp,kp,kp,kp,kp,kp,kp,kp,kp] rfl mixed (by kernel_rfl) ?_
   intro w73 hl73 hj73 hz73
   refine DL.mv 16 (a0_v) rfl rfl rfl ?_
   refine DL.mv 17 (.int .i64 x13_4) rfl rfl rfl ?_
   obtain ⟨g74,h75⟩:=req_some h72
   obtain ⟨g76,h77⟩:=req_some h75
   refine DL.pu 18 (elp a0_v x13_4.toNat) rfl (p_slIx1 ty_u31 ty_s5 (RowV.some hr_a0 g74 g76) g74 g76 rfl rfl rfl) ?_
   refine DL.imm (v:=.int .u8 (a0.getD x13_4.toNat 0)) rfl (Wn.none rfl) rfl rfl rfl (i_loadEl (RowV.mono hr_a0 hE.mi) (encl_get .u8 (lt_len g74 g76)) ty_a5 rfl rfl) ?_
   refine DL.mv 20 (a1_v) rfl rfl rfl ?_
   refine DL.mv 21 (.int .i64 x13_4) rfl rfl rfl ?_
   obtain ⟨g78,h79⟩:=req_some h77
   refine DL.pu 22 (elp a1_v x13_4.toNat) rfl (p_slIx1 ty_u31 ty_s5 (RowV.some hr_a1 g74 g78) g74 g78 rfl rfl rfl) ?_
   refine DL.imm (v:=.int .u8 (a1.getD x13_4.toNat 0)) rfl (Wn.none rfl) rfl rfl rfl (i_loadEl (RowV.mono hr_a1 hE.mi) (encl_get .u8 (lt_len g74 g78)) ty_a5 rfl rfl) ?_
   obtain ⟨t80,e81,h82⟩:=nm_some h79
   refine DL.pu 24 (.bool t80) rfl (by rw [e81]; exact p_neq rfl rfl rfl) ?_
   refine DL.nil' hl73 ?_
   by_cases c83 : t80 = true
   ·
    have h84:=ite_true c83 h82
    refine TT.ct rfl rfl c83 ?_
    refine TT.sq rfl ?_
    refine TT.rg [0] [kp] rfl rfl ?_
    refine DL.pu 4 (.bool false) rfl (p_assign rfl rfl) ?_
    refine DL.nil ?_
    obtain rfl:=Option.some.inj h84
    have k85 : false = r:=hk
    subst k85
    exact retnE (rs:=[.tmp 4]) (vs:=[.bool false]) hE.base Tryz.func99 rfl rfl rfl (res_cons (ResV.tmp rfl) res_nil) rfl
   ·
    replace c83:=Bool.eq_false_iff.mpr c83
    have h86:=ite_false c83 h82
    refine TT.cf rfl rfl c83 ?_
    refine TT.skip ?_
    refine TT.inBlock ?_
    refine TT.rg [0,1] [kp,kp] rfl rfl ?_
    refine DL.pu 25 (.int .i64 (IntKind.i64.wrap (x13_4 + 1))) rfl (p_add rfl rfl rfl) ?_
    refine DL.mv 13 (.int .i64 (IntKind.i64.wrap (x13_4 + 1))) rfl rfl rfl ?_
    refine DL.nil ?_
    refine TT.inLoop ?_
    exact TT.weak (ih (IntKind.i64.wrap (x13_4 + 1)) _ h86 hk) (Sub.cons rfl (Sub.cons rfl (Sub.cons rfl (Sub.cons rfl (Sub.nil _)))))
  ·
   replace c71:=Bool.eq_false_iff.mpr c71
   have h87:=ite_false c71 h
   refine TT.cf rfl rfl c71 ?_
   refine TT.exit rfl ?_
   obtain rfl:=Option.some.inj h87
   exact TT.weak (hk) (Sub.nil _)

def slices_Equal_99.f (a0 : List Int) (a1 : List Int) : Option (Bool):=if ((a0.length : Int) != (a1.length : Int)) = true then (some false) else (onw (slices_Equal_99.L0 a0 a1 ((a0.length : Int).toNat + 1) 0) (fun _ => some true) (fun r => some r))
set_option maxRecDepth 20000 in
theorem slices_Equal_99.ok {a0 : List Int} {a1 : List Int} {a0_v : Value} {a1_v : Value} {r : Bool} (h : slices_Equal_99.f a0 a1 = some r) {M : Mem} (w : World) (hM : Ext M (heapOf w)) (hr_a0 : IntRow M .u8 a0_v a0) (hr_a1 : IntRow M .u8 a1_v a1) : Calls Tryz.prog 99 #[a0_v,a1_v] w (Post (fun u => u = .bool r) w):=by
 unfold slices_Equal_99.f at h
 have hE:=Env.start hM
 refine calls_of_TT (N:=26) (S:=[(0,a0_v),(1,a1_v)]) (c:=B99) Tryz.func99 rfl rfl rfl (by simp) ?_
 show TT _ _ _ _ _ _ [.code (sub [] B99)] _ _
 refine TT.sq rfl ?_
 refine TT.rg [0] [kp] rfl rfl ?_
 refine DL.pu 4 (.bool false) rfl (p_assign rfl rfl) ?_
 refine DL.nil ?_
 refine TT.sq rfl ?_
 refine TT.sq rfl ?_
 refine TT.rg [0,1,2,3,4] [kp,kp,kp,kp,kp] rfl rfl ?_
 refine DL.mv 6 (a0_v) rfl rfl rfl ?_
 refine DL.pu 7 (.int .i64 (a0.length : Int)) rfl (p_slLen ty_u31 (RowV.sl hr_a0) rfl rfl) ?_
 refine DL.mv 8 (a1_v) rfl rfl rfl ?_
 refine DL.pu 9 (.int .i64 (a1.length : Int)) rfl (p_slLen ty_u31 (RowV.sl hr_a1) rfl rfl) ?_
 refine DL.pu 10 (.bool ((a0.length : Int) != (a1.length : Int))) rfl (p_neq rfl rfl rfl) ?_
 refine DL.nil ?_
 by_cases c1 : ((a0.length : Int) != (a1.length : Int)) = true
 ·
  have h2:=ite_true c1 h
  refine TT.ct rfl rfl c1 ?_
  refine TT.sq rfl ?_
  refine TT.rg [0] [kp] rfl rfl ?_
  refine DL.pu 4 (.bool false) rfl (p_assign rfl rfl) ?_
  refine DL.nil ?_
  obtain rfl:=Option.some.inj h2
  exact retnE (rs:=[.tmp 4]) (vs:=[.bool false]) hE.base Tryz.func99 rfl rfl rfl (res_cons (ResV.tmp rfl) res_nil) rfl
 ·
  replace c1:=Bool.eq_false_iff.mpr c1
  have h3:=ite_false c1 h
  refine TT.cf rfl rfl c1 ?_
  refine TT.skip ?_
  refine TT.sq rfl ?_
  refine TT.sq rfl ?_
  refine TT.rg [0,1,2] [kp,kp,kp] rfl rfl ?_
  refine DL.mv 11 (a0_v) rfl rfl rfl ?_
  refine DL.pu 12 (.int .i64 (a0.length : Int)) rfl (p_slLen ty_u31 (RowV.sl hr_a0) rfl rfl) ?_
  refine DL.mv 13 (.int .i64 0) rfl rfl rfl ?_
  refine DL.nil ?_
  refine TT.bk rfl ?_
  refine TT.lp rfl ?_
  rcases onw_some h3 with ⟨_,h88,h89⟩ | ⟨r91,h88,h89⟩
  ·
   refine TT.weak (slices_Equal_99.L0_ok a0 a0_v a1 a1_v hE hr_a0 hr_a1 ((a0.length : Int).toNat + 1) 0 (.inl ()) h88 (?_)) (Sub.cons rfl (Sub.cons rfl (Sub.cons rfl (Sub.cons rfl (Sub.nil _)))))
   show TT _ _ _ _ _ _ _ _ _
   refine TT.sq rfl ?_
   refine TT.rg [0] [kp] rfl rfl ?_
   refine DL.pu 4 (.bool true) rfl (p_assign rfl rfl) ?_
   refine DL.nil ?_
   obtain rfl:=Option.some.inj h89
   exact retnE (rs:=[.tmp 4]) (vs:=[.bool true]) hE.base Tryz.func99 rfl rfl rfl (res_cons (ResV.tmp rfl) res_nil) rfl
  ·
   obtain rfl:=Option.some.inj h89
   exact TT.weak (slices_Equal_99.L0_ok a0 a0_v a1 a1_v hE hr_a0 hr_a1 ((a0.length : Int).toNat + 1) 0 (.inr r91) h88 rfl) (Sub.cons rfl (Sub.cons rfl (Sub.cons rfl (Sub.cons rfl (Sub.nil _)))))
theorem slices_Equal_99.val {a0 : List Int} {a1 : List Int} {a0_v : Value} {a1_v : Value} {r : Bool} (h : slices_Equal_99.f a0 a1 = some r) {M : Mem} (w : World) (hM : Ext M (heapOf w)) (hr_a0 : IntRow M .u8 a0_v a0) (hr_a1 : IntRow M .u8 a1_v a1) : Calls Tryz.prog 99 #[a0_v,a1_v] w fun e w' => e = .returned (.bool r) ∧ Below w.heap.size w w' :=
 calls_value (slices_Equal_99.ok h w hM hr_a0 hr_a1)

end Go.Proofs.YthldgjbmjgjogaaGreatDoor
