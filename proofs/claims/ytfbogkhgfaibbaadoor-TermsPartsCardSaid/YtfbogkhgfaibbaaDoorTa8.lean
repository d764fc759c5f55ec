import Derived.Test.YtfbogkhgfaibbaaDoorTa7
namespace Go.Proofs.YtfbogkhgfaibbaaDoor
open Go Go.HW Go.RowKit
set_option linter.unusedVariables false
set_option linter.unusedSimpArgs false

/-! ### escutcheon/escutcheonlaw29.walk: function 19 -/
noncomputable def B19 : Code:=bodyOf Tryd.f19
def law29_walk.L0 (r_law29_walk : Tm → (List Tm) → Option ((List Tm))) (a0 : Tm) : Nat → (List Tm) → Int → Option (List Tm)
 | 0,_,_ => none
 | k + 1,y_7,x5_8 => if (decide (x5_8 < ((Tree.kids a0).length : Int))) = true then (req (0 ≤ x5_8) (req (x5_8 < ((Tree.kids a0).length : Int)) (nm ((Tree.kids a0).getD x5_8.toNat Tm.dflt) fun t83 => (r_law29_walk t83 y_7).bind fun t86 => law29_walk.L0 r_law29_walk a0 k t86 (IntKind.i64.wrap (x5_8 + 1))))) else (some y_7)
set_option maxRecDepth 20000 in
theorem law29_walk.L0_ok {r_law29_walk : Tm → (List Tm) → Option ((List Tm))} (hr_law29_walk : law29_walk.Rec r_law29_walk) (a0 : Tm) (a0_2 : Value) (a1_v : Value) (b1 : Nat) (s3_v : Value) (s3_c : Array Value) {R : Ending → World → Prop} {w0 : World} {M0 Mb : Mem} {K : List Item} (hr_a0_2 : RowS ShTm Mb a0_2 (Tree.kids a0)) :
  ∀ (k : Nat) (M I : Mem) (hE : EnvX (Value.ownBlock a1_v) w0 M0 M I) (hx : Ext Mb M) (y_7 : List Tm) (x5_8 : Int) (y_7_v : Value) (y_7_c : Array Value) (r0_ : List Tm) (ho_y_7 : OwnS ShTm M y_7_v y_7_c y_7) (h : law29_walk.L0 r_law29_walk a0 k y_7 x5_8 = some r0_) (hk : ∀ (M' I' : Mem),EnvX (Value.ownBlock a1_v) w0 M0 M' I' → Ext Mb M' → ∀ (z_hole_75_v : Value),∀ (z_hole_75_c : Array Value),OwnS ShTm M' z_hole_75_v z_hole_75_c r0_ → TT Tryd.prog 19 R 25 w0 I' K [(1,z_hole_75_v)] [(Value.ownBlock s3_v,.cells s3_c 25 (0,0)),(some b1,.cells ((Tm.ce a0 a0_2)) 25 (0,0)),(Value.ownBlock z_hole_75_v,.cells z_hole_75_c 25 (0,0))]),
   TT Tryd.prog 19 R 25 w0 I (.code (sub [1,1,0,1,0,0] B19) :: .inLoop (sub [1,1,0,1,0,0] B19) :: .inBlock 0 :: K) [(1,y_7_v),(2,ptr b1 0),(5,.int .i64 x5_8)] [(Value.ownBlock s3_v,.cells s3_c 25 (0,0)),(some b1,.cells ((Tm.ce a0 a0_2)) 25 (0,0)),(Value.ownBlock y_7_v,.cells y_7_c 25 (0,0))]:=by
 intro k
 induction k with
 | zero => intro M I hE hx y_7 x5_8 y_7_v y_7_c r0_ ho_y_7 h; simp [law29_walk.L0] at h
 | succ k ih =>
  intro M I hE hx y_7 x5_8 y_7_v y_7_c r0_ ho_y_7 h hk
  unfold law29_walk.L0 at h
  refine TT.seq (x:=sub [1,1,0,1,0,0,0] B19) (y:=sub [1,1,0,1,0,0,1] B19) ?_
  refine TT.seq (x:=sub [1,1,0,1,0,0,0,0] B19) (y:=sub [1,1,0,1,0,0,0,1] B19) ?_
  refine TT.rg [0,1,2,3,4] [kp,kp,kq,kp,kp] rfl rfl ?_
  refine DL.mv 10 (.int .i64 x5_8) rfl rfl rfl ?_
  refine DL.pu 11 (ptr b1 2) rfl (p_fieldAddr ty_f25_2 rfl rfl) ?_
  refine DL.qu 12 (a0_2) rfl (f_load (j:=1) ty_a22 rfl rfl rfl rfl) ?_
  refine DL.pu 13 (.int .i64 ((Tree.kids a0).length : Int)) rfl (p_slLen ty_u22 (RowS.sl (RowS.mono hr_a0_2 hx)) rfl rfl) ?_
  refine DL.pu 14 (.bool (decide (x5_8 < ((Tree.kids a0).length : Int)))) rfl (p_lss rfl rfl rfl) ?_
  refine DL.nil ?_
  by_cases c76 : (decide (x5_8 < ((Tree.kids a0).length : Int))) = true
  ·
   have h77:=ite_true c76 h
   refine TT.cond_true (x:=sub [1,1,0,1,0,0,0,1,0] B19) (y:=sub [1,1,0,1,0,0,0,1,1] B19) rfl c76 ?_
   refine TT.skip ?_
   refine TT.seq (x:=sub [1,1,0,1,0,0,1,0] B19) (y:=sub [1,1,0,1,0,0,1,1] B19) ?_
   refine TT.block (c:=sub [1,1,0,1,0,0,1,0,0] B19) ?_
   refine TT.rg [0,1,2,3,4,5,6,7] [kp,kq,kp,kp,kp,kp,kx,kp] rfl rfl ?_
   refine DL.pu 17 (ptr b1 2) rfl (p_fieldAddr ty_f25_2 rfl rfl) ?_
   refine DL.qu 18 (a0_2) rfl (f_load (j:=1) ty_a22 rfl rfl rfl rfl) ?_
   refine DL.mv 19 (.int .i64 x5_8) rfl rfl rfl ?_
   obtain ⟨g78,h79⟩:=req_some h77
   obtain ⟨g80,h81⟩:=req_some h79
   refine DL.pu 20 (elp a0_2 (x5_8.toNat * 3)) rfl (p_slIx ty_u22 ty_s25 (RowS.some (RowS.mono hr_a0_2 hx) g78 g80) g78 g80 rfl rfl rfl) ?_
   obtain ⟨t83,e84,h85⟩:=nm_some h81
   obtain ⟨cs82,hc82,hl82⟩:=id ((RowS.mono hr_a0_2 hx))
   have q82:=hl82 _ _ (getD_some Tm.dflt (lt_len g78 g80)); rw [← e84] at q82
   obtain ⟨t83_2,hq82,hr_t83_2⟩:=Tm.op q82
   refine DL.imm (v:=.agg (Tm.ce t83 t83_2)) rfl (Wn.none rfl) rfl rfl rfl (i_loadElA (RowV.mono hc82 hE.mi) hq82 (lt_len g78 g80) ty_a25 ty_s25 rfl rfl) ?_
   refine DL.mv 22 (y_7_v) rfl rfl rfl ?_
   obtain ⟨t86,h87,h88⟩:=bind_some h85
   refine DL.callX (G:=Value × Array Value) (u:=fun g => (g.1)) (Q:=fun g M_ => (OwnS ShTm M_ (g.1) (g.2) t86)) (r':=fun g => Value.ownBlock (g.1)) (o':=fun g => .cells (g.2) 25 (0,0)) (A:=[(Value.ownBlock s3_v,.cells s3_c 25 (0,0)),(some b1,.cells ((Tm.ce a0 a0_2)) 25 (0,0)),(Value.ownBlock y_7_v,.cells y_7_c 25 (0,0))]) (J:=[]) (j:=2) (fun r_89 o_89 J89 => ((Value.ownBlock s3_v,.cells s3_c 25 (0,0)) :: (some b1,.cells ((Tm.ce a0 a0_2)) 25 (0,0)) :: (r_89,o_89) :: J89)) (Nat.le_refl _) hE.nil (List.append_nil _).symm rfl (fun _ _ _ => rfl) (by simp) (i:=6) rfl (Wn.none rfl) rfl rfl rfl rfl rfl rfl (args_val (vs:=[.agg (Tm.ce t83 t83_2),y_7_v]) rfl) (fun w => enter19 _ w) (fun w hc hI hx_ hm_ => hr_law29_walk h87 (M:=M) w hI hr_t83_2 ho_y_7 hx_ hm_) ?_
   rintro ⟨t86_v,t86_c⟩ M89 J89 hE89 hx89 ho_t86
   show DL _ _ _ _ _ _ _ _ _ _ _ _ ((Value.ownBlock s3_v,.cells s3_c 25 (0,0)) :: (some b1,.cells ((Tm.ce a0 a0_2)) 25 (0,0)) :: (Value.ownBlock t86_v,.cells t86_c 25 (0,0)) :: J89)
   refine DL.pu 1 (t86_v) rfl (p_assign rfl rfl) ?_
   refine DL.nil ?_
   refine TT.settle (A:=[(Value.ownBlock s3_v,.cells s3_c 25 (0,0)),(some b1,.cells ((Tm.ce a0 a0_2)) 25 (0,0)),(Value.ownBlock t86_v,.cells t86_c 25 (0,0))]) (J:=J89) hE89 ?_
   intro I90 hE90 hxI90
   refine TT.inBlock ?_
   refine TT.rg [0,1,2] [kp,kp,kp] rfl rfl ?_
   refine DL.mv 15 (.int .i64 x5_8) rfl rfl rfl ?_
   refine DL.pu 16 (.int .i64 (IntKind.i64.wrap (x5_8 + 1))) rfl (p_add rfl rfl rfl) ?_
   refine DL.pu 5 (.int .i64 (IntKind.i64.wrap (x5_8 + 1))) rfl (p_assign rfl rfl) ?_
   refine DL.nil ?_
   refine TT.inLoop ?_
   exact TT.weak (ih M89 I90 hE90 (hx.trans hx89) t86 (IntKind.i64.wrap (x5_8 + 1)) t86_v t86_c r0_ ho_t86 h88 hk) (Sub.cons rfl (Sub.cons rfl (Sub.cons rfl (Sub.nil _))))
  ·
   replace c76:=Bool.eq_false_iff.mpr c76
   have h91:=ite_false c76 h
   refine TT.cond_false (x:=sub [1,1,0,1,0,0,0,1,0] B19) (y:=sub [1,1,0,1,0,0,0,1,1] B19) rfl c76 ?_
   refine TT.exit rfl ?_
   obtain rfl:=Option.some.inj h91
   exact TT.weak (hk M I hE hx y_7_v y_7_c ho_y_7) (Sub.cons rfl (Sub.nil _))

def law29_walk.F (r_law29_walk : Tm → (List Tm) → Option ((List Tm))) (a0 : Tm) (a1 : List Tm) : Option ((List Tm)):=req (a1.length + [a0].length ≤ 1099511627776) ((law29_walk.L0 r_law29_walk a0 (((Tree.kids a0).length : Int).toNat + 1) (a1 ++ [a0]) 0).bind fun z_hole_75 => some z_hole_75)
set_option maxRecDepth 20000 in
theorem law29_walk.okF {r_law29_walk : Tm → (List Tm) → Option ((List Tm))} (hr_law29_walk : law29_walk.Rec r_law29_walk) {a0 : Tm} {a1 : List Tm} {a0_2 : Value} {a1_v : Value} {a1_c : Array Value} {r : List Tm} (h : law29_walk.F r_law29_walk a0 a1 = some r) {M : Mem} (w : World) (hM : Ext M (heapOf w)) (hr_a0_2 : RowS ShTm M a0_2 (Tree.kids a0)) (ho_a1 : OwnS ShTm M a1_v a1_c a1) (hX : ∀ b,(Value.ownBlock a1_v) = some b → w.heap[b]? = some (.cells a1_c 25 (0,0))) (hXM : ∀ b,(Value.ownBlock a1_v) = some b → M b = none) : Calls Tryd.prog 19 #[.agg (Tm.ce a0 a0_2),a1_v] w (PostX (G:=Value × Array Value) (fun g => (g.1)) (fun g M_ => (OwnS ShTm M_ (g.1) (g.2) r)) (fun g => Value.ownBlock (g.1)) (fun g => .cells (g.2) 25 (0,0)) (Value.ownBlock a1_v) M w):=by
 unfold law29_walk.F at h
 have hE:=Env.startX hM hXM
 refine calls_of_TTX (x:=(Value.ownBlock a1_v)) (o:=.cells a1_c 25 (0,0)) (N:=25) (S:=[(0,.agg (Tm.ce a0 a0_2)),(1,a1_v)]) (c:=B19) hX Tryd.func19 rfl rfl rfl (by simp) ?_
 show TT _ _ _ _ _ _ [.code (sub [] B19)] _ _
 refine TT.seq (x:=sub [0] B19) (y:=sub [1] B19) ?_
 refine TT.rg [0,1] [(.alloc,none),kp] rfl rfl ?_
 refine DL.new (ob:=.cells ((Tm.ce a0 a0_2)) 25) (mk:=fun b => ptr b 0) (i:=0) rfl (Wn.none rfl) rfl rfl rfl (f_box (v:=.agg (Tm.ce a0 a0_2)) rfl rfl) ?_
 intro b1 hb1
 refine DL.pu 4 (.slice none 0 0) rfl (p_assign rfl rfl) ?_
 refine DL.nil ?_
 refine TT.seq (x:=sub [1,0] B19) (y:=sub [1,1] B19) ?_
 refine TT.rg [0,1,2,3,4] [kp,kq,(.alloc,none),kx,kp] rfl rfl ?_
 refine DL.mv 6 (a1_v) rfl rfl rfl ?_
 refine DL.qu 7 (.agg (Tm.ce a0 a0_2)) rfl (f_loadA (j:=0) ty_a25 ty_s25 rfl rfl rfl rfl) ?_
 refine DL.newS (M:=M) (s:=ShTm) (zs:=[a0]) (cells:=[.int .i64 (Tm.kind a0),.int .i64 (Tm.num a0),a0_2]) (n:=1) rfl (by decide) rfl (fun i x hx => by match i,hx with | 0,hx => cases hx; exact (Tm.cl (t:=a0) hr_a0_2) | k + 1,hx => simp at hx) (i:=2) rfl (Wn.none rfl) rfl rfl rfl (f_buildS (n:=1) (vs:=[(0,.agg (Tm.ce a0 a0_2))]) elem22 rfl rfl (by kernel_rfl) rfl (args_val2 rfl)) ?_
 intro s3_v s3_c ho_s3
 obtain ⟨g4,h5⟩:=req_some h
 refine DL.appendS (M:=M) (s:=ShTm) (fun s6_v s6_c => [(Value.ownBlock s3_v,.cells s3_c 25 (0,0)),(some b1,.cells ((Tm.ce a0 a0_2)) 25 (0,0)),(Value.ownBlock s6_v,.cells s6_c 25 (0,0))]) elem22 (j:=2) rfl ho_a1 g4 (by decide) (OwnS.src (i:=0) ho_s3 rfl) (i:=3) rfl (Wn.none rfl) rfl rfl rfl rfl rfl rfl (fun _ _ => rfl) ?_
 intro s6_v s6_c ho_s6
 show DL _ _ _ _ _ _ _ _ _ _ _ _ [(Value.ownBlock s3_v,.cells s3_c 25 (0,0)),(some b1,.cells ((Tm.ce a0 a0_2)) 25 (0,0)),(Value.ownBlock s6_v,.cells s6_c 25 (0,0))]
 refine DL.pu 1 (s6_v) rfl (p_assign rfl rfl) ?_
 refine DL.nil ?_
 refine TT.seq (x:=sub [1,1,0] B19) (y:=sub [1,1,1] B19) ?_
 refine TT.seq (x:=sub [1,1,0,0] B19) (y:=sub [1,1,0,1] B19) ?_
 refine TT.rg [0] [kp] rfl rfl ?_
 refine DL.pu 5 (.int .i64 0) rfl (p_assign rfl rfl) ?_
 refine DL.nil ?_
 refine TT.block (c:=sub [1,1,0,1,0] B19) ?_
 refine TT.loop (c:=sub [1,1,0,1,0,0] B19) ?_
 obtain ⟨z_hole_75,h92,h93⟩:=bind_some h5
 refine TT.weak (law29_walk.L0_ok hr_law29_walk a0 a0_2 a1_v b1 s3_v s3_c hr_a0_2 (((Tree.kids a0).length : Int).toNat + 1) M (I0 (Value.ownBlock a1_v) w) hE (Ext.refl _) (a1 ++ [a0]) 0 s6_v s6_c z_hole_75 ho_s6 h92 (fun M94 I94 hE94 hx94 z_hole_75_v z_hole_75_c ho_z_hole_75 => ?_)) (Sub.cons rfl (Sub.cons rfl (Sub.cons rfl (Sub.nil _))))
 refine TT.seq (x:=sub [1,1,1,0] B19) (y:=sub [1,1,1,1] B19) ?_
 refine TT.rg [0,1] [kp,kp] rfl rfl ?_
 refine DL.mv 24 (z_hole_75_v) rfl rfl rfl ?_
 refine DL.pu 4 (z_hole_75_v) rfl (p_assign rfl rfl) ?_
 refine DL.nil ?_
 obtain rfl:=Option.some.inj h93
 exact retX (rs:=[.tmp 4]) (vs:=[z_hole_75_v]) (j:=2) (z_hole_75_v,z_hole_75_c) hE94 Tryd.func19 rfl rfl rfl (res_cons (ResV.tmp rfl) res_nil) rfl ho_z_hole_75
def law29_walk.f : Nat → Tm → (List Tm) → Option ((List Tm))
 | 0,_,_ => none
 | k + 1,a0,a1 => law29_walk.F (law29_walk.f k) a0 a1
theorem law29_walk.rec : ∀ k,law29_walk.Rec (law29_walk.f k):=by
 intro k
 induction k with
 | zero => intro _ _ _ _ _ _ h; simp [law29_walk.f] at h
 | succ k ih => intro a0 a1 a0_2 a1_v a1_c r h M w hM hr_a0_2 ho_a1 hX hXM; exact law29_walk.okF ih h w hM hr_a0_2 ho_a1 hX hXM
theorem law29_walk.ok {k : Nat} {a0 : Tm} {a1 : List Tm} {a0_2 : Value} {a1_v : Value} {a1_c : Array Value} {r : List Tm} (h : law29_walk.f k a0 a1 = some r) {M : Mem} (w : World) (hM : Ext M (heapOf w)) (hr_a0_2 : RowS ShTm M a0_2 (Tree.kids a0)) (ho_a1 : OwnS ShTm M a1_v a1_c a1) (hX : ∀ b,(Value.ownBlock a1_v) = some b → w.heap[b]? = some (.cells a1_c 25 (0,0))) (hXM : ∀ b,(Value.ownBlock a1_v) = some b → M b = none) : Calls Tryd.prog 19 #[.agg (Tm.ce a0 a0_2),a1_v] w (PostX (G:=Value × Array Value) (fun g => (g.1)) (fun g M_ => (OwnS ShTm M_ (g.1) (g.2) r)) (fun g => Value.ownBlock (g.1)) (fun g => .cells (g.2) 25 (0,0)) (Value.ownBlock a1_v) M w) :=
 law29_walk.rec k h w hM hr_a0_2 ho_a1 hX hXM

end Go.Proofs.YtfbogkhgfaibbaaDoor
