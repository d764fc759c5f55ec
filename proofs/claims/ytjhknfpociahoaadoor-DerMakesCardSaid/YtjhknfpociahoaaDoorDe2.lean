import Derived.Test.YtjhknfpociahoaaDoorDe1
namespace Go.Proofs.YtjhknfpociahoaaDoor
open Go Go.HW Go.RowKit
set_option linter.unusedVariables false
set_option linter.unusedSimpArgs false

/-! ### escutcheon/escutcheonref13.Big: function 25 -/
noncomputable def B25 : Code:=bodyOf Tryd.f25
def ref13_Big.L0 (r_ref13_Big : Der → Int → Option (Int)) (a0 : Der) : Nat → Int → Int → Option (Int)
 | 0,_,_ => none
 | k + 1,x1_17,x5_18 => (if (decide (x5_18 < ((Tree.kids a0).length : Int))) = true then (some (decide (0 ≤ x1_17))) else (some false)).bind fun q93 => if q93 = true then (req (0 ≤ x5_18) (req (x5_18 < ((Tree.kids a0).length : Int)) (nm ((Tree.kids a0).getD x5_18.toNat Der.dflt) fun t107 => (r_ref13_Big t107 x1_17).bind fun t110 => ref13_Big.L0 r_ref13_Big a0 k t110 (IntKind.i64.wrap (x5_18 + 1))))) else (some x1_17)
set_option maxRecDepth 20000 in
theorem ref13_Big.L0_ok {r_ref13_Big : Der → Int → Option (Int)} (hr_ref13_Big : ref13_Big.Rec r_ref13_Big) (a0 : Der) (a0_3 : Value) (a0_5 : Value) (a0_6 : Value) (b1 : Nat) {R : Ending → World → Prop} {w0 : World} {M0 M I : Mem} {K : List Item} (hE : Env w0 M0 M I) (hr_a0_6 : RowS ShDer M a0_6 (Tree.kids a0)) :
  ∀ (k : Nat) (x1_17 : Int) (x5_18 : Int) (r0_ : Int) (h : ref13_Big.L0 r_ref13_Big a0 k x1_17 x5_18 = some r0_) (hk : TT Tryd.prog 25 R 44 w0 I K [(1,.int .i64 r0_)] [(some b1,.cells ((Der.ce a0 a0_3 a0_5 a0_6)) 27 (0,0))]),
   TT Tryd.prog 25 R 44 w0 I (.code (sub [1,1,0,1,0,0] B25) :: .inLoop (sub [1,1,0,1,0,0] B25) :: .inBlock 0 :: K) [(1,.int .i64 x1_17),(2,ptr b1 0),(5,.int .i64 x5_18)] [(some b1,.cells ((Der.ce a0 a0_3 a0_5 a0_6)) 27 (0,0))]:=by
 intro k
 induction k with
 | zero => intro x1_17 x5_18 r0_ h; simp [ref13_Big.L0] at h
 | succ k ih =>
  intro x1_17 x5_18 r0_ h hk
  unfold ref13_Big.L0 at h
  refine TT.seq (x:=sub [1,1,0,1,0,0,0] B25) (y:=sub [1,1,0,1,0,0,1] B25) ?_
  refine TT.seq (x:=sub [1,1,0,1,0,0,0,0] B25) (y:=sub [1,1,0,1,0,0,0,1] B25) ?_
  refine TT.rg [0,1,2,3,4,5,6,7,8] [kp,kp,kq,kp,kp,kp,kp,kp,kp] rfl rfl ?_
  refine DL.mv 25 (.int .i64 x5_18) rfl rfl rfl ?_
  refine DL.pu 26 (ptr b1 6) rfl (p_fieldAddr ty_f27_6 rfl rfl) ?_
  refine DL.qu 27 (a0_6) rfl (f_load (j:=0) ty_a25 rfl rfl rfl rfl) ?_
  refine DL.pu 28 (.int .i64 ((Tree.kids a0).length : Int)) rfl (p_slLen ty_u25 (RowS.sl hr_a0_6) rfl rfl) ?_
  refine DL.pu 29 (.bool (decide (x5_18 < ((Tree.kids a0).length : Int)))) rfl (p_lss rfl rfl rfl) ?_
  refine DL.mv 30 (.bool (decide (x5_18 < ((Tree.kids a0).length : Int)))) rfl rfl rfl ?_
  obtain ⟨q93,h94,h95⟩:=bind_some h
  refine DL.cut [(1,.int .i64 x1_17),(2,ptr b1 0),(5,.int .i64 x5_18),(33,.bool q93)] [] ?_ (fun J96 => ?_)
  ·
   refine DL.nil ?_
   by_cases c100 : q93 = true
   ·
    have h101:=ite_true c100 h95
    refine TT.cond_true (x:=sub [1,1,0,1,0,0,0,1,0] B25) (y:=sub [1,1,0,1,0,0,0,1,1] B25) rfl c100 ?_
    refine TT.skip ?_
    refine TT.seq (x:=sub [1,1,0,1,0,0,1,0] B25) (y:=sub [1,1,0,1,0,0,1,1] B25) ?_
    refine TT.block (c:=sub [1,1,0,1,0,0,1,0,0] B25) ?_
    refine TT.rg [0,1,2,3,4,5,6,7] [kp,kq,kp,kp,kq,kp,kq,kp] rfl rfl ?_
    refine DL.pu 36 (ptr b1 6) rfl (p_fieldAddr ty_f27_6 rfl rfl) ?_
    refine DL.qu 37 (a0_6) rfl (f_load (j:=0) ty_a25 rfl rfl rfl rfl) ?_
    refine DL.mv 38 (.int .i64 x5_18) rfl rfl rfl ?_
    obtain ⟨g102,h103⟩:=req_some h101
    obtain ⟨g104,h105⟩:=req_some h103
    refine DL.pu 39 (elp a0_6 (x5_18.toNat * 7)) rfl (p_slIx ty_u25 ty_s27 (RowS.some hr_a0_6 g102 g104) g102 g104 rfl rfl rfl) ?_
    obtain ⟨t107,e108,h109⟩:=nm_some h105
    obtain ⟨cs106,hc106,hl106⟩:=id (hr_a0_6)
    have q106:=hl106 _ _ (getD_some Der.dflt (lt_len g102 g104)); rw [← e108] at q106
    obtain ⟨t107_3,t107_5,t107_6,hq106,hr_t107_3,hr_t107_5,hr_t107_6⟩:=Der.op q106
    refine DL.qu 40 (.agg (Der.ce t107 t107_3 t107_5 t107_6)) rfl (q_loadElA (fun w hc => hE.imm hc) hc106 hq106 (lt_len g102 g104) ty_a27 ty_s27 rfl rfl) ?_
    refine DL.mv 41 (.int .i64 x1_17) rfl rfl rfl ?_
    obtain ⟨t110,h111,h112⟩:=bind_some h109
    refine DL.qu 42 (.int .i64 t110) rfl (f_callR rfl rfl (args_val (vs:=[.agg (Der.ce t107 t107_3 t107_5 t107_6),.int .i64 x1_17]) rfl) (fun w => enter25 _ w) (fun w hc => hr_ref13_Big h111 (M:=M) w (hE.ext hc) hr_t107_3 hr_t107_5 hr_t107_6)) ?_
    refine DL.pu 1 (.int .i64 t110) rfl (p_assign rfl rfl) ?_
    refine DL.nil ?_
    refine TT.inBlock ?_
    refine TT.rg [0,1,2] [kp,kp,kp] rfl rfl ?_
    refine DL.mv 34 (.int .i64 x5_18) rfl rfl rfl ?_
    refine DL.pu 35 (.int .i64 (IntKind.i64.wrap (x5_18 + 1))) rfl (p_add rfl rfl rfl) ?_
    refine DL.pu 5 (.int .i64 (IntKind.i64.wrap (x5_18 + 1))) rfl (p_assign rfl rfl) ?_
    refine DL.nil ?_
    refine TT.inLoop ?_
    exact TT.weak (ih t110 (IntKind.i64.wrap (x5_18 + 1)) r0_ h112 hk) (Sub.cons rfl (Sub.cons rfl (Sub.cons rfl (Sub.nil _))))
   ·
    replace c100:=Bool.eq_false_iff.mpr c100
    have h113:=ite_false c100 h95
    refine TT.cond_false (x:=sub [1,1,0,1,0,0,0,1,0] B25) (y:=sub [1,1,0,1,0,0,0,1,1] B25) rfl c100 ?_
    refine TT.exit rfl ?_
    obtain rfl:=Option.some.inj h113
    exact TT.weak (hk) (Sub.cons rfl (Sub.nil _))
  ·
   by_cases c97 : (decide (x5_18 < ((Tree.kids a0).length : Int))) = true
   ·
    have h98:=ite_true c97 h94
    refine DL.pure (v:=.int .i64 x1_17) rfl (Wn.yes c97 rfl rfl rfl rfl) rfl rfl rfl (p_move rfl rfl) ?_
    refine DL.pure (v:=.bool (decide (0 ≤ x1_17))) rfl (Wn.yes c97 rfl rfl rfl rfl) rfl rfl rfl (p_geq rfl rfl rfl) ?_
    refine DL.pu 33 (.bool (decide (0 ≤ x1_17))) rfl (p_pick_t c97 rfl rfl rfl) ?_
    obtain rfl:=Option.some.inj h98
    exact DL.weak J96 (Sub.cons rfl (Sub.cons rfl (Sub.cons rfl (Sub.cons rfl (Sub.nil _)))))
   ·
    replace c97:=Bool.eq_false_iff.mpr c97
    have h99:=ite_false c97 h94
    refine DL.not (i:=6) rfl (Wn.no c97 rfl rfl rfl rfl) rfl rfl ?_
    refine DL.not (i:=7) rfl (Wn.no c97 rfl rfl rfl rfl) rfl rfl ?_
    refine DL.pu 33 (.bool false) rfl (p_pick_f c97 rfl rfl rfl) ?_
    obtain rfl:=Option.some.inj h99
    exact DL.weak J96 (Sub.cons rfl (Sub.cons rfl (Sub.cons rfl (Sub.cons rfl (Sub.nil _)))))

def ref13_Big.F (r_ref13_Big : Der → Int → Option (Int)) (a0 : Der) (a1 : Int) : Option (Int):=nm (if 100000 < ((Der.bytes a0).length : Int) then 100000 else ((Der.bytes a0).length : Int)) fun t2 => nm (IntKind.i64.wrap ((IntKind.i64.wrap (a1 - 1)) - (IntKind.i64.wrap (Int.tdiv t2 64)))) fun t5 => nm (if 100000 < ((Der.text a0).length : Int) then 100000 else ((Der.text a0).length : Int)) fun t8 => nm (IntKind.i64.wrap (t5 - (IntKind.i64.wrap (Int.tdiv t8 64)))) fun t11 => nm (if 100000 < ((Der.arcs a0).length : Int) then 100000 else ((Der.arcs a0).length : Int)) fun t14 => (ref13_Big.L0 r_ref13_Big a0 ((IntKind.i64.wrap (t11 - t14)).toNat + 2) (IntKind.i64.wrap (t11 - t14)) 0).bind fun z1_91 => some z1_91
set_option maxRecDepth 20000 in
theorem ref13_Big.okF {r_ref13_Big : Der → Int → Option (Int)} (hr_ref13_Big : ref13_Big.Rec r_ref13_Big) {a0 : Der} {a1 : Int} {a0_3 : Value} {a0_5 : Value} {a0_6 : Value} {r : Int} (h : ref13_Big.F r_ref13_Big a0 a1 = some r) {M : Mem} (w : World) (hM : Ext M (heapOf w)) (hr_a0_3 : IntRow M .u8 a0_3 (Der.bytes a0)) (hr_a0_5 : IntRow M .u64 a0_5 (Der.arcs a0)) (hr_a0_6 : RowS ShDer M a0_6 (Tree.kids a0)) : Calls Tryd.prog 25 #[.agg (Der.ce a0 a0_3 a0_5 a0_6),.int .i64 a1] w (Post (fun u => u = .int .i64 r) w):=by
 unfold ref13_Big.F at h
 have hE:=Env.start hM
 refine calls_of_TT (N:=44) (S:=[(0,.agg (Der.ce a0 a0_3 a0_5 a0_6)),(1,.int .i64 a1)]) (c:=B25) Tryd.func25 rfl rfl rfl (by simp) ?_
 show TT _ _ _ _ _ _ [.code (sub [] B25)] _ _
 refine TT.seq (x:=sub [0] B25) (y:=sub [1] B25) ?_
 refine TT.rg [0,1] [(.alloc,none),kp] rfl rfl ?_
 refine DL.new (ob:=.cells ((Der.ce a0 a0_3 a0_5 a0_6)) 27) (mk:=fun b => ptr b 0) (i:=0) rfl (Wn.none rfl) rfl rfl rfl (f_box (v:=.agg (Der.ce a0 a0_3 a0_5 a0_6)) rfl rfl) ?_
 intro b1 hb1
 refine DL.pu 4 (.int .i64 0) rfl (p_assign rfl rfl) ?_
 refine DL.nil ?_
 refine TT.seq (x:=sub [1,0] B25) (y:=sub [1,1] B25) ?_
 refine TT.rg [0,1,2,3,4,5,6,7,8,9,10,11,12,13,14,15,16,17,18,19] [kp,kp,kp,kq,kp,kp,kp,kp,kp,kq,kp,kp,kp,kp,kp,kq,kp,kp,kp,kp] rfl rfl ?_
 refine DL.mv 6 (.int .i64 a1) rfl rfl rfl ?_
 refine DL.pu 7 (.int .i64 (IntKind.i64.wrap (a1 - 1))) rfl (p_sub rfl rfl rfl) ?_
 refine DL.pu 8 (ptr b1 3) rfl (p_fieldAddr ty_f27_3 rfl rfl) ?_
 refine DL.qu 9 (a0_3) rfl (f_load (j:=0) ty_a23 rfl rfl rfl rfl) ?_
 refine DL.pu 10 (.int .i64 ((Der.bytes a0).length : Int)) rfl (p_slLen ty_u23 (RowV.sl hr_a0_3) rfl rfl) ?_
 obtain ⟨t2,e3,h4⟩:=nm_some h
 refine DL.pu 11 (.int .i64 t2) rfl (by rw [e3]; exact p_min2 rfl rfl rfl) ?_
 refine DL.pu 12 (.int .i64 (IntKind.i64.wrap (Int.tdiv t2 64))) rfl (p_quo (by decide) rfl rfl rfl) ?_
 obtain ⟨t5,e6,h7⟩:=nm_some h4
 refine DL.pu 13 (.int .i64 t5) rfl (by rw [e6]; exact p_sub rfl rfl rfl) ?_
 refine DL.pu 14 (ptr b1 4) rfl (p_fieldAddr ty_f27_4 rfl rfl) ?_
 refine DL.qu 15 (str (Der.text a0)) rfl (f_load (j:=0) ty_a9 rfl rfl rfl rfl) ?_
 refine DL.pu 16 (.int .i64 ((Der.text a0).length : Int)) rfl (p_strLen ty_u9 rfl rfl) ?_
 obtain ⟨t8,e9,h10⟩:=nm_some h7
 refine DL.pu 17 (.int .i64 t8) rfl (by rw [e9]; exact p_min2 rfl rfl rfl) ?_
 refine DL.pu 18 (.int .i64 (IntKind.i64.wrap (Int.tdiv t8 64))) rfl (p_quo (by decide) rfl rfl rfl) ?_
 obtain ⟨t11,e12,h13⟩:=nm_some h10
 refine DL.pu 19 (.int .i64 t11) rfl (by rw [e12]; exact p_sub rfl rfl rfl) ?_
 refine DL.pu 20 (ptr b1 5) rfl (p_fieldAddr ty_f27_5 rfl rfl) ?_
 refine DL.qu 21 (a0_5) rfl (f_load (j:=0) ty_a24 rfl rfl rfl rfl) ?_
 refine DL.pu 22 (.int .i64 ((Der.arcs a0).length : Int)) rfl (p_slLen ty_u24 (RowV.sl hr_a0_5) rfl rfl) ?_
 obtain ⟨t14,e15,h16⟩:=nm_some h13
 refine DL.pu 23 (.int .i64 t14) rfl (by rw [e15]; exact p_min2 rfl rfl rfl) ?_
 refine DL.pu 24 (.int .i64 (IntKind.i64.wrap (t11 - t14))) rfl (p_sub rfl rfl rfl) ?_
 refine DL.pu 1 (.int .i64 (IntKind.i64.wrap (t11 - t14))) rfl (p_assign rfl rfl) ?_
 refine DL.nil ?_
 refine TT.seq (x:=sub [1,1,0] B25) (y:=sub [1,1,1] B25) ?_
 refine TT.seq (x:=sub [1,1,0,0] B25) (y:=sub [1,1,0,1] B25) ?_
 refine TT.rg [0] [kp] rfl rfl ?_
 refine DL.pu 5 (.int .i64 0) rfl (p_assign rfl rfl) ?_
 refine DL.nil ?_
 refine TT.block (c:=sub [1,1,0,1,0] B25) ?_
 refine TT.loop (c:=sub [1,1,0,1,0,0] B25) ?_
 obtain ⟨z1_91,h114,h115⟩:=bind_some h16
 refine TT.weak (ref13_Big.L0_ok hr_ref13_Big a0 a0_3 a0_5 a0_6 b1 hE hr_a0_6 ((IntKind.i64.wrap (t11 - t14)).toNat + 2) (IntKind.i64.wrap (t11 - t14)) 0 z1_91 h114 ( ?_)) (Sub.cons rfl (Sub.cons rfl (Sub.cons rfl (Sub.nil _))))
 refine TT.seq (x:=sub [1,1,1,0] B25) (y:=sub [1,1,1,1] B25) ?_
 refine TT.rg [0,1] [kp,kp] rfl rfl ?_
 refine DL.mv 43 (.int .i64 z1_91) rfl rfl rfl ?_
 refine DL.pu 4 (.int .i64 z1_91) rfl (p_assign rfl rfl) ?_
 refine DL.nil ?_
 obtain rfl:=Option.some.inj h115
 exact retnE (rs:=[.tmp 4]) (vs:=[.int .i64 z1_91]) hE.base Tryd.func25 rfl rfl rfl (res_cons (ResV.tmp rfl) res_nil) rfl
theorem ref13_Big.valF {r_ref13_Big : Der → Int → Option (Int)} (hr_ref13_Big : ref13_Big.Rec r_ref13_Big) {a0 : Der} {a1 : Int} {a0_3 : Value} {a0_5 : Value} {a0_6 : Value} {r : Int} (h : ref13_Big.F r_ref13_Big a0 a1 = some r) {M : Mem} (w : World) (hM : Ext M (heapOf w)) (hr_a0_3 : IntRow M .u8 a0_3 (Der.bytes a0)) (hr_a0_5 : IntRow M .u64 a0_5 (Der.arcs a0)) (hr_a0_6 : RowS ShDer M a0_6 (Tree.kids a0)) : Calls Tryd.prog 25 #[.agg (Der.ce a0 a0_3 a0_5 a0_6),.int .i64 a1] w fun e w' => e = .returned (.int .i64 r) ∧ Below w.heap.size w w' :=
 calls_value (ref13_Big.okF hr_ref13_Big h w hM hr_a0_3 hr_a0_5 hr_a0_6)
def ref13_Big.f : Nat → Der → Int → Option (Int)
 | 0,_,_ => none
 | k + 1,a0,a1 => ref13_Big.F (ref13_Big.f k) a0 a1
theorem ref13_Big.rec : ∀ k,ref13_Big.Rec (ref13_Big.f k):=by
 intro k
 induction k with
 | zero => intro _ _ _ _ _ _ h; simp [ref13_Big.f] at h
 | succ k ih => intro a0 a1 a0_3 a0_5 a0_6 r h M w hM hr_a0_3 hr_a0_5 hr_a0_6; exact ref13_Big.valF ih h w hM hr_a0_3 hr_a0_5 hr_a0_6
theorem ref13_Big.ok {k : Nat} {a0 : Der} {a1 : Int} {a0_3 : Value} {a0_5 : Value} {a0_6 : Value} {r : Int} (h : ref13_Big.f k a0 a1 = some r) {M : Mem} (w : World) (hM : Ext M (heapOf w)) (hr_a0_3 : IntRow M .u8 a0_3 (Der.bytes a0)) (hr_a0_5 : IntRow M .u64 a0_5 (Der.arcs a0)) (hr_a0_6 : RowS ShDer M a0_6 (Tree.kids a0)) : Calls Tryd.prog 25 #[.agg (Der.ce a0 a0_3 a0_5 a0_6),.int .i64 a1] w (Post (fun u => u = .int .i64 r) w) :=
 (ref13_Big.rec k h w hM hr_a0_3 hr_a0_5 hr_a0_6).mono fun e w' ⟨he,hb⟩ => ⟨_,he,rfl,hb⟩
theorem ref13_Big.val {k : Nat} {a0 : Der} {a1 : Int} {a0_3 : Value} {a0_5 : Value} {a0_6 : Value} {r : Int} (h : ref13_Big.f k a0 a1 = some r) {M : Mem} (w : World) (hM : Ext M (heapOf w)) (hr_a0_3 : IntRow M .u8 a0_3 (Der.bytes a0)) (hr_a0_5 : IntRow M .u64 a0_5 (Der.arcs a0)) (hr_a0_6 : RowS ShDer M a0_6 (Tree.kids a0)) : Calls Tryd.prog 25 #[.agg (Der.ce a0 a0_3 a0_5 a0_6),.int .i64 a1] w fun e w' => e = .returned (.int .i64 r) ∧ Below w.heap.size w w' :=
 ref13_Big.rec k h w hM hr_a0_3 hr_a0_5 hr_a0_6

/-! ### escutcheon/der.whole: function 59 -/
noncomputable def B59 : Code:=bodyOf Tryd.f59
def der_whole.L0 (a0 : Int) : Nat → (List Int) → Int → Option (List Int)
 | 0,_,_ => none
 | k + 1,y_15,x5_16 => if (decide (0 ≤ x5_16)) = true then (req (0 ≤ (IntKind.i64.wrap (8 * x5_16))) (nm (IntKind.u8.wrap (ishr .i64 a0 (IntKind.i64.wrap (8 * x5_16)))) fun t85 => req (y_15.length + [t85].length ≤ 1099511627776) (der_whole.L0 a0 k (y_15 ++ [t85]) (IntKind.i64.wrap (x5_16 - 1))))) else (some y_15)
set_option maxRecDepth 20000 in
theorem der_whole.L0_ok (a0 : Int) {R : Ending → World → Prop} {w0 : World} {M0 M I : Mem} {K : List Item} (hE : Env w0 M0 M I) :
  ∀ (k : Nat) (y_15 : List Int) (x5_16 : Int) (y_15_v : Value) (y_15_c : Array Value) (r0_ : List Int) (ho_y_15 : IntOwn .u8 y_15_v y_15_c y_15) (h : der_whole.L0 a0 k y_15 x5_16 = some r0_) (hk : ∀ (z_o14_80_v : Value),∀ (z_o14_80_c : Array Value),IntOwn .u8 z_o14_80_v z_o14_80_c r0_ → TT Tryd.prog 59 R 29 w0 I K [(4,z_o14_80_v)] [(Value.ownBlock z_o14_80_v,.cells z_o14_80_c 5 (0,0))]),
   TT Tryd.prog 59 R 29 w0 I (.code (sub [1,1,1,0,1,0,0] B59) :: .inLoop (sub [1,1,1,0,1,0,0] B59) :: .inBlock 0 :: K) [(0,.int .i64 a0),(4,y_15_v),(5,.int .i64 x5_16)] [(Value.ownBlock y_15_v,.cells y_15_c 5 (0,0))]:=by
 intro k
 induction k with
 | zero => intro y_15 x5_16 y_15_v y_15_c r0_ ho_y_15 h; simp [der_whole.L0] at h
 | succ k ih =>
  intro y_15 x5_16 y_15_v y_15_c r0_ ho_y_15 h hk
  unfold der_whole.L0 at h
  refine TT.seq (x:=sub [1,1,1,0,1,0,0,0] B59) (y:=sub [1,1,1,0,1,0,0,1] B59) ?_
  refine TT.seq (x:=sub [1,1,1,0,1,0,0,0,0] B59) (y:=sub [1,1,1,0,1,0,0,0,1] B59) ?_
  refine TT.rg [0,1] [kp,kp] rfl rfl ?_
  refine DL.mv 16 (.int .i64 x5_16) rfl rfl rfl ?_
  refine DL.pu 17 (.bool (decide (0 ≤ x5_16))) rfl (p_geq rfl rfl rfl) ?_
  refine DL.nil ?_
  by_cases c81 : (decide (0 ≤ x5_16)) = true
  ·
   have h82:=ite_true c81 h
   refine TT.cond_true (x:=sub [1,1,1,0,1,0,0,0,1,0] B59) (y:=sub [1,1,1,0,1,0,0,0,1,1] B59) rfl c81 ?_
   refine TT.skip ?_
   refine TT.seq (x:=sub [1,1,1,0,1,0,0,1,0] B59) (y:=sub [1,1,1,0,1,0,0,1,1] B59) ?_
   refine TT.block (c:=sub [1,1,1,0,1,0,0,1,0,0] B59) ?_
   refine TT.rg [0,1,2,3,4,5,6,7,8] [kp,kp,kp,kp,kp,kp,(.alloc,none),kx,kp] rfl rfl ?_
   refine DL.mv 20 (y_15_v) rfl rfl rfl ?_
   refine DL.mv 21 (.int .i64 a0) rfl rfl rfl ?_
   refine DL.mv 22 (.int .i64 x5_16) rfl rfl rfl ?_
   refine DL.pu 23 (.int .i64 (IntKind.i64.wrap (8 * x5_16))) rfl (p_mul rfl rfl rfl) ?_
   obtain ⟨g83,h84⟩:=req_some h82
   refine DL.pu 24 (.int .i64 (ishr .i64 a0 (IntKind.i64.wrap (8 * x5_16)))) rfl (p_shr g83 rfl rfl rfl) ?_
   obtain ⟨t85,e86,h87⟩:=nm_some h84
   refine DL.pu 25 (.int .u8 t85) rfl (by rw [e86]; exact p_conv ty_u2 ty_u5 ⟨_,rfl⟩ rfl rfl) ?_
   refine DL.newSl (zs:=[t85]) (n:=1) rfl (by decide) (i:=6) rfl (Wn.none rfl) rfl rfl rfl (f_buildSl (n:=1) (zs:=[t85]) (vs:=[(0,.int .u8 t85)]) elem23 rfl rfl (by kernel_rfl) rfl (args_val2 rfl)) ?_
   intro s89_v s89_c ho_s89
   obtain ⟨g90,h91⟩:=req_some h87
   refine DL.appendI (fun s92_v s92_c => [(Value.ownBlock s89_v,.cells s89_c 5 (0,0)),(Value.ownBlock s92_v,.cells s92_c 5 (0,0))]) elem23 (j:=1) rfl ho_y_15 g90 (by decide) (fun w hc => IntOwn.src (i:=0) ho_s89 hc rfl) (i:=7) rfl (Wn.none rfl) rfl rfl rfl rfl rfl rfl (fun _ _ => rfl) ?_
   intro s92_v s92_c ho_s92
   show DL _ _ _ _ _ _ _ _ _ _ _ _ [(Value.ownBlock s89_v,.cells s89_c 5 (0,0)),(Value.ownBlock s92_v,.cells s92_c 5 (0,0))]
   refine DL.pu 4 (s92_v) rfl (p_assign rfl rfl) ?_
   refine DL.nil ?_
   refine TT.inBlock ?_
   refine TT.rg [0,1,2] [kp,kp,kp] rfl rfl ?_
   refine DL.mv 18 (.int .i64 x5_16) rfl rfl rfl ?_
   refine DL.pu 19 (.int .i64 (IntKind.i64.wrap (x5_16 - 1))) rfl (p_sub rfl rfl rfl) ?_
   refine DL.pu 5 (.int .i64 (IntKind.i64.wrap (x5_16 - 1))) rfl (p_assign rfl rfl) ?_
   refine DL.nil ?_
   refine TT.inLoop ?_
   exact TT.pick [1] (by decide) (TT.weak (ih (y_15 ++ [t85]) (IntKind.i64.wrap (x5_16 - 1)) s92_v s92_c r0_ ho_s92 h91 hk) (Sub.cons rfl (Sub.cons rfl (Sub.cons rfl (Sub.nil _)))))
  ·
   replace c81:=Bool.eq_false_iff.mpr c81
   have h93:=ite_false c81 h
   refine TT.cond_false (x:=sub [1,1,1,0,1,0,0,0,1,0] B59) (y:=sub [1,1,1,0,1,0,0,0,1,1] B59) rfl c81 ?_
   refine TT.exit rfl ?_
   obtain rfl:=Option.some.inj h93
   exact TT.weak (hk y_15_v y_15_c ho_y_15) (Sub.cons rfl (Sub.nil _))

def der_whole.f (a0 : Int) : Option ((List Int)):=nm (IntKind.u64.wrap (ixor .i64 a0 (ishr .i64 a0 63))) fun t1 => req (0 ≤ t1) (req (t1 ≤ 18446744073709551615) (nm (len64 t1) fun t8 => nm (IntKind.i64.wrap (Int.tdiv (IntKind.i64.wrap (t8 + 8)) 8)) fun t11 => (der_whole.L0 a0 ((IntKind.i64.wrap (t11 - 1)).toNat + 2) ([] : List Int) (IntKind.i64.wrap (t11 - 1))).bind fun z_o14_80 => some z_o14_80))
set_option maxRecDepth 20000 in
theorem der_whole.ok {a0 : Int} {r : List Int} (h : der_whole.f a0 = some r) {M : Mem} (w : World) (hM : Ext M (heapOf w)) : Calls Tryd.prog 59 #[.int .i64 a0] w (PostOwn id .u8 5 r w):=by
 unfold der_whole.f at h
 have hE:=Env.start hM
 refine calls_of_TT (N:=29) (S:=[(0,.int .i64 a0)]) (c:=B59) Tryd.func59 rfl rfl rfl (by simp) ?_
 show TT _ _ _ _ _ _ [.code (sub [] B59)] _ _
 refine TT.seq (x:=sub [0] B59) (y:=sub [1] B59) ?_
 refine TT.rg [0] [kp] rfl rfl ?_
 refine DL.pu 2 (.slice none 0 0) rfl (p_assign rfl rfl) ?_
 refine DL.nil ?_
 refine TT.seq (x:=sub [1,0] B59) (y:=sub [1,1] B59) ?_
 refine TT.rg [0,1,2,3,4,5,6,7,8] [kp,kp,kp,kp,kp,kq,kp,kp,kp] rfl rfl ?_
 refine DL.mv 6 (.int .i64 a0) rfl rfl rfl ?_
 refine DL.mv 7 (.int .i64 a0) rfl rfl rfl ?_
 refine DL.pu 8 (.int .i64 (ishr .i64 a0 63)) rfl (p_shr (by decide) rfl rfl rfl) ?_
 refine DL.pu 9 (.int .i64 (ixor .i64 a0 (ishr .i64 a0 63))) rfl (p_xor rfl rfl rfl) ?_
 obtain ⟨t1,e2,h3⟩:=nm_some h
 refine DL.pu 10 (.int .u64 t1) rfl (by rw [e2]; exact p_conv ty_u2 ty_u50 ⟨_,rfl⟩ rfl rfl) ?_
 obtain ⟨g4,h5⟩:=req_some h3
 obtain ⟨g6,h7⟩:=req_some h5
 obtain ⟨t8,e9,h10⟩:=nm_some h7
 refine DL.qu 11 (.int .i64 t8) rfl (by rw [e9]; exact f_call rfl rfl (args_val (vs:=[.int .u64 t1]) rfl) (fun w => enter67 _ w) (fun w => len64_ok _ g4 g6 w)) ?_
 refine DL.pu 12 (.int .i64 (IntKind.i64.wrap (t8 + 8))) rfl (p_add rfl rfl rfl) ?_
 obtain ⟨t11,e12,h13⟩:=nm_some h10
 refine DL.pu 13 (.int .i64 t11) rfl (by rw [e12]; exact p_quo (by decide) rfl rfl rfl) ?_
 refine DL.pu 3 (.int .i64 t11) rfl (p_assign rfl rfl) ?_
 refine DL.nil ?_
 refine TT.seq (x:=sub [1,1,0] B59) (y:=sub [1,1,1] B59) ?_
 refine TT.rg [0] [kp] rfl rfl ?_
 refine DL.pu 4 (.slice none 0 0) rfl (p_assign rfl rfl) ?_
 refine DL.nil ?_
 refine TT.seq (x:=sub [1,1,1,0] B59) (y:=sub [1,1,1,1] B59) ?_
 refine TT.seq (x:=sub [1,1,1,0,0] B59) (y:=sub [1,1,1,0,1] B59) ?_
 refine TT.rg [0,1,2] [kp,kp,kp] rfl rfl ?_
 refine DL.mv 14 (.int .i64 t11) rfl rfl rfl ?_
 refine DL.pu 15 (.int .i64 (IntKind.i64.wrap (t11 - 1))) rfl (p_sub rfl rfl rfl) ?_
 refine DL.pu 5 (.int .i64 (IntKind.i64.wrap (t11 - 1))) rfl (p_assign rfl rfl) ?_
 refine DL.nil ?_
 refine TT.block (c:=sub [1,1,1,0,1,0] B59) ?_
 refine TT.nilOwn (e:=5) ?_
 refine TT.loop (c:=sub [1,1,1,0,1,0,0] B59) ?_
 obtain ⟨z_o14_80,h94,h95⟩:=bind_some h13
 refine TT.weak (der_whole.L0_ok a0 hE ((IntKind.i64.wrap (t11 - 1)).toNat + 2) ([] : List Int) (IntKind.i64.wrap (t11 - 1)) (.slice none 0 0) (#[]) z_o14_80 (IntOwn.nil .u8) h94 (fun z_o14_80_v z_o14_80_c ho_z_o14_80 => ?_)) (Sub.cons rfl (Sub.cons rfl (Sub.cons rfl (Sub.nil _))))
 refine TT.seq (x:=sub [1,1,1,1,0] B59) (y:=sub [1,1,1,1,1] B59) ?_
 refine TT.rg [0,1] [kp,kp] rfl rfl ?_
 refine DL.mv 28 (z_o14_80_v) rfl rfl rfl ?_
 refine DL.pu 2 (z_o14_80_v) rfl (p_assign rfl rfl) ?_
 refine DL.nil ?_
 obtain rfl:=Option.some.inj h95
 exact retOwnE (j:=0) hE.base Tryd.func59 rfl rfl rfl ho_z_o14_80

/-! ### escutcheon/der.arcs: function 54 -/
noncomputable def B54 : Code:=bodyOf Tryd.f54
def der_arcs.L0 (a0 : List Int) : Nat → (List Int) → Int → Int → Option (List Int)
 | 0,_,_,_ => none
 | k + 1,y_2,x4_3,x10_4 => if (decide (x10_4 < (a0.length : Int))) = true then (req (0 ≤ x10_4) (req (x10_4 < (a0.length : Int)) (nm (if 1099511627776 < x4_3 then 1099511627776 else x4_3) fun t89 => nm (IntKind.u64.wrap (iand .u8 (a0.getD x10_4.toNat 0) 127)) fun t92 => (if (decide ((a0.getD x10_4.toNat 0) < 128)) = true then (req (y_2.length + [ior .u64 (ishl .u64 t89 7) t92].length ≤ 1099511627776) (some ((y_2 ++ [ior .u64 (ishl .u64 t89 7) t92]),0))) else (some (y_2,ior .u64 (ishl .u64 t89 7) t92))).bind fun (j_o1_96,j4_97) => der_arcs.L0 a0 k j_o1_96 j4_97 (IntKind.i64.wrap (x10_4 + 1))))) else (some y_2)
set_option maxRecDepth 20000 in
theorem der_arcs.L0_ok (a0 : List Int) (a0_v : Value) {R : Ending → World → Prop} {w0 : World} {M0 M I : Mem} {K : List Item} (hE : Env w0 M0 M I) (hr_a0 : IntRow M .u8 a0_v a0) :
  ∀ (k : Nat) (y_2 : List Int) (x4_3 : Int) (x10_4 : Int) (y_2_v : Value) (y_2_c : Array Value) (r0_ : List Int) (ho_y_2 : IntOwn .u64 y_2_v y_2_c y_2) (h : der_arcs.L0 a0 k y_2 x4_3 x10_4 = some r0_) (hk : ∀ (z_o1_82_v : Value),∀ (z_o1_82_c : Array Value),IntOwn .u64 z_o1_82_v z_o1_82_c r0_ → TT Tryd.prog 54 R 47 w0 I K [(3,z_o1_82_v)] [(Value.ownBlock z_o1_82_v,.cells z_o1_82_c 50 (0,0))]),
   TT Tryd.prog 54 R 47 w0 I (.code (sub [1,1,1,0,1,0,0] B54) :: .inLoop (sub [1,1,1,0,1,0,0] B54) :: .inBlock 0 :: K) [(3,y_2_v),(4,.int .u64 x4_3),(8,a0_v),(9,.int .i64 (a0.length : Int)),(10,.int .i64 x10_4)] [(Value.ownBlock y_2_v,.cells y_2_c 50 (0,0))]:=by
 intro k
 induction k with
 | zero => intro y_2 x4_3 x10_4 y_2_v y_2_c r0_ ho_y_2 h; simp [der_arcs.L0] at h
 | succ k ih =>
  intro y_2 x4_3 x10_4 y_2_v y_2_c r0_ ho_y_2 h hk
  unfold der_arcs.L0 at h
  refine TT.seq (x:=sub [1,1,1,0,1,0,0,0] B54) (y:=sub [1,1,1,0,1,0,0,1] B54) ?_
  refine TT.rg [0] [kp] rfl rfl ?_
  refine DL.pu 11 (.bool (decide (x10_4 < (a0.length : Int)))) rfl (p_lss rfl rfl rfl) ?_
  refine DL.nil ?_
  refine TT.seq (x:=sub [1,1,1,0,1,0,0,1,0] B54) (y:=sub [1,1,1,0,1,0,0,1,1] B54) ?_
  by_cases c83 : (decide (x10_4 < (a0.length : Int))) = true
  ·
   have h84:=ite_true c83 h
   refine TT.cond_true (x:=sub [1,1,1,0,1,0,0,1,0,0] B54) (y:=sub [1,1,1,0,1,0,0,1,0,1] B54) rfl c83 ?_
   refine TT.skip ?_
   refine TT.seq (x:=sub [1,1,1,0,1,0,0,1,1,0] B54) (y:=sub [1,1,1,0,1,0,0,1,1,1] B54) ?_
   refine TT.block (c:=sub [1,1,1,0,1,0,0,1,1,0,0] B54) ?_
   refine TT.seq (x:=sub [1,1,1,0,1,0,0,1,1,0,0,0] B54) (y:=sub [1,1,1,0,1,0,0,1,1,0,0,1] B54) ?_
   refine TT.rg [0,1,2] [kp,kp,kp] rfl rfl ?_
   obtain ⟨g85,h86⟩:=req_some h84
   obtain ⟨g87,h88⟩:=req_some h86
   refine DL.pu 12 (elp a0_v x10_4.toNat) rfl (p_slIx1 ty_u23 ty_s5 (RowV.some hr_a0 g85 g87) g85 g87 rfl rfl rfl) ?_
   refine DL.imm (v:=.int .u8 (a0.getD x10_4.toNat 0)) rfl (Wn.none rfl) rfl rfl rfl (i_loadEl (RowV.mono hr_a0 hE.mi) (encl_get .u8 (lt_len g85 g87)) ty_a5 rfl rfl) ?_
   refine DL.pu 6 (.int .u8 (a0.getD x10_4.toNat 0)) rfl (p_assign rfl rfl) ?_
   refine DL.nil ?_
   refine TT.seq (x:=sub [1,1,1,0,1,0,0,1,1,0,0,1,0] B54) (y:=sub [1,1,1,0,1,0,0,1,1,0,0,1,1] B54) ?_
   refine TT.rg [0,1,2,3,4,5,6,7] [kp,kp,kp,kp,kp,kp,kp,kp] rfl rfl ?_
   refine DL.mv 14 (.int .u64 x4_3) rfl rfl rfl ?_
   obtain ⟨t89,e90,h91⟩:=nm_some h88
   refine DL.pu 15 (.int .u64 t89) rfl (by rw [e90]; exact p_min2 rfl rfl rfl) ?_
   refine DL.pu 16 (.int .u64 (ishl .u64 t89 7)) rfl (p_shl (by decide) rfl rfl rfl) ?_
   refine DL.mv 17 (.int .u8 (a0.getD x10_4.toNat 0)) rfl rfl rfl ?_
   refine DL.pu 18 (.int .u8 (iand .u8 (a0.getD x10_4.toNat 0) 127)) rfl (p_and rfl rfl rfl) ?_
   obtain ⟨t92,e93,h94⟩:=nm_some h91
   refine DL.pu 19 (.int .u64 t92) rfl (by rw [e93]; exact p_conv ty_u5 ty_u50 ⟨_,rfl⟩ rfl rfl) ?_
   refine DL.pu 20 (.int .u64 (ior .u64 (ishl .u64 t89 7) t92)) rfl (p_or rfl rfl rfl) ?_
   refine DL.pu 4 (.int .u64 (ior .u64 (ishl .u64 t89 7) t92)) rfl (p_assign rfl rfl) ?_
   refine DL.nil ?_
   refine TT.seq (x:=sub [1,1,1,0,1,0,0,1,1,0,0,1,1,0] B54) (y:=sub [1,1,1,0,1,0,0,1,1,0,0,1,1,1] B54) ?_
   refine TT.rg [0,1] [kp,kp] rfl rfl ?_
   refine DL.mv 21 (.int .u8 (a0.getD x10_4.toNat 0)) rfl rfl rfl ?_
   refine DL.pu 22 (.bool (decide ((a0.getD x10_4.toNat 0) < 128))) rfl (p_lss rfl rfl rfl) ?_
   refine DL.nil ?_
   obtain ⟨⟨j_o1_96,j4_97⟩,h98,h99⟩:=bind_some h94
   have J100 : ∀ (j_o1_96_v : Value),∀ (j_o1_96_c : Array Value),IntOwn .u64 j_o1_96_v j_o1_96_c j_o1_96 → TT Tryd.prog 54 R 47 w0 I (.inBlock 1 :: .code (sub [1,1,1,0,1,0,0,1,1,1] B54) :: .inLoop (sub [1,1,1,0,1,0,0] B54) :: .inBlock 0 :: K) [(3,j_o1_96_v),(4,.int .u64 j4_97),(8,a0_v),(9,.int .i64 (a0.length : Int)),(10,.int .i64 x10_4)] [(Value.ownBlock j_o1_96_v,.cells j_o1_96_c 50 (0,0))]:=by
    intro j_o1_96_v j_o1_96_c ho_j_o1_96
    refine TT.inBlock ?_
    refine TT.rg [0,1] [kp,kp] rfl rfl ?_
    refine DL.pu 27 (.int .i64 (IntKind.i64.wrap (x10_4 + 1))) rfl (p_add rfl rfl rfl) ?_
    refine DL.mv 10 (.int .i64 (IntKind.i64.wrap (x10_4 + 1))) rfl rfl rfl ?_
    refine DL.nil ?_
    refine TT.inLoop ?_
    exact TT.weak (ih j_o1_96 j4_97 (IntKind.i64.wrap (x10_4 + 1)) j_o1_96_v j_o1_96_c r0_ ho_j_o1_96 h99 hk) (Sub.cons rfl (Sub.cons rfl (Sub.cons rfl (Sub.cons rfl (Sub.cons rfl (Sub.nil _))))))
   by_cases c95 : (decide ((a0.getD x10_4.toNat 0) < 128)) = true
   ·
    have h102:=ite_true c95 h98
    refine TT.cond_true (x:=sub [1,1,1,0,1,0,0,1,1,0,0,1,1,1,0] B54) (y:=sub [1,1,1,0,1,0,0,1,1,0,0,1,1,1,1] B54) rfl c95 ?_
    refine TT.seq (x:=sub [1,1,1,0,1,0,0,1,1,0,0,1,1,1,0,0] B54) (y:=sub [1,1,1,0,1,0,0,1,1,0,0,1,1,1,0,1] B54) ?_
    refine TT.rg [0,1,2,3,4] [kp,kp,(.alloc,none),kx,kp] rfl rfl ?_
    refine DL.mv 23 (y_2_v) rfl rfl rfl ?_
    refine DL.mv 24 (.int .u64 (ior .u64 (ishl .u64 t89 7) t92)) rfl rfl rfl ?_
    refine DL.newSl (zs:=[ior .u64 (ishl .u64 t89 7) t92]) (n:=1) rfl (by decide) (i:=2) rfl (Wn.none rfl) rfl rfl rfl (f_buildSl (n:=1) (zs:=[ior .u64 (ishl .u64 t89 7) t92]) (vs:=[(0,.int .u64 (ior .u64 (ishl .u64 t89 7) t92))]) elem24 rfl rfl (by kernel_rfl) rfl (args_val2 rfl)) ?_
    intro s104_v s104_c ho_s104
    obtain ⟨g105,h106⟩:=req_some h102
    refine DL.appendI (fun s107_v s107_c => [(Value.ownBlock s104_v,.cells s104_c 50 (0,0)),(Value.ownBlock s107_v,.cells s107_c 50 (0,0))]) elem24 (j:=1) rfl ho_y_2 g105 (by decide) (fun w hc => IntOwn.src (i:=0) ho_s104 hc rfl) (i:=3) rfl (Wn.none rfl) rfl rfl rfl rfl rfl rfl (fun _ _ => rfl) ?_
    intro s107_v s107_c ho_s107
    show DL _ _ _ _ _ _ _ _ _ _ _ _ [(Value.ownBlock s104_v,.cells s104_c 50 (0,0)),(Value.ownBlock s107_v,.cells s107_c 50 (0,0))]
    refine DL.pu 3 (s107_v) rfl (p_assign rfl rfl) ?_
    refine DL.nil ?_
    refine TT.rg [0] [kp] rfl rfl ?_
    refine DL.pu 4 (.int .u64 0) rfl (p_assign rfl rfl) ?_
    refine DL.nil ?_
    simp only [Option.some.injEq,Prod.mk.injEq] at h106
    obtain ⟨rfl,rfl⟩:=h106
    exact TT.pick [1] (by decide) (TT.weak (J100 s107_v s107_c ho_s107) (Sub.cons rfl (Sub.cons rfl (Sub.cons rfl (Sub.cons rfl (Sub.cons rfl (Sub.nil _)))))))
   ·
    replace c95:=Bool.eq_false_iff.mpr c95
    have h108:=ite_false c95 h98
    refine TT.cond_false (x:=sub [1,1,1,0,1,0,0,1,1,0,0,1,1,1,0] B54) (y:=sub [1,1,1,0,1,0,0,1,1,0,0,1,1,1,1] B54) rfl c95 ?_
    refine TT.skip ?_
    simp only [Option.some.injEq,Prod.mk.injEq] at h108
    obtain ⟨rfl,rfl⟩:=h108
    exact TT.weak (J100 y_2_v y_2_c ho_y_2) (Sub.cons rfl (Sub.cons rfl (Sub.cons rfl (Sub.cons rfl (Sub.cons rfl (Sub.nil _))))))
  ·
   replace c83:=Bool.eq_false_iff.mpr c83
   have h109:=ite_false c83 h
   refine TT.cond_false (x:=sub [1,1,1,0,1,0,0,1,0,0] B54) (y:=sub [1,1,1,0,1,0,0,1,0,1] B54) rfl c83 ?_
   refine TT.exit rfl ?_
   obtain rfl:=Option.some.inj h109
   exact TT.weak (hk y_2_v y_2_c ho_y_2) (Sub.cons rfl (Sub.nil _))

def der_arcs.f (a0 : List Int) : Option ((List Int)):=(der_arcs.L0 a0 ((a0.length : Int).toNat + 1) ([] : List Int) 0 0).bind fun z_o1_82 => if ((z_o1_82.length : Int) == 0) = true then (some ([] : List Int)) else (req ((0 : Int) < (z_o1_82.length : Int)) (nm (IntKind.u64.wrap (Int.tdiv (z_o1_82.getD ((0 : Int).toNat) 0) 40)) fun t119 => nm (IntKind.u64.wrap (40 * (if 2 < t119 then 2 else t119))) fun t124 => nm (IntKind.u64.wrap ((z_o1_82.getD ((0 : Int).toNat) 0) - t124)) fun t127 => req ((1 : Int) ≤ (z_o1_82.length : Int)) (req ([if 2 < t119 then 2 else t119,t127].length + (z_o1_82.drop (1 : Int).toNat).length ≤ 1099511627776) (some ([if 2 < t119 then 2 else t119,t127] ++ (z_o1_82.drop (1 : Int).toNat))))))
set_option maxRecDepth 20000 in
theorem der_arcs.ok {a0 : List Int} {a0_v : Value} {r : List Int} (h : der_arcs.f a0 = some r) {M : Mem} (w : World) (hM : Ext M (heapOf w)) (hr_a0 : IntRow M .u8 a0_v a0) : Calls Tryd.prog 54 #[a0_v] w (PostOwn id .u64 50 r w):=by
 unfold der_arcs.f at h
 have hE:=Env.start hM
 refine calls_of_TT (N:=47) (S:=[(0,a0_v)]) (c:=B54) Tryd.func54 rfl rfl rfl (by simp) ?_
 show TT _ _ _ _ _ _ [.code (sub [] B54)] _ _
 refine TT.seq (x:=sub [0] B54) (y:=sub [1] B54) ?_
 refine TT.rg [0] [kp] rfl rfl ?_
 refine DL.pu 2 (.slice none 0 0) rfl (p_assign rfl rfl) ?_
 refine DL.nil ?_
 refine TT.seq (x:=sub [1,0] B54) (y:=sub [1,1] B54) ?_
 refine TT.rg [0] [kp] rfl rfl ?_
 refine DL.pu 3 (.slice none 0 0) rfl (p_assign rfl rfl) ?_
 refine DL.nil ?_
 refine TT.seq (x:=sub [1,1,0] B54) (y:=sub [1,1,1] B54) ?_
 refine TT.rg [0] [kp] rfl rfl ?_
 refine DL.pu 4 (.int .u64 0) rfl (p_assign rfl rfl) ?_
 refine DL.nil ?_
 refine TT.seq (x:=sub [1,1,1,0] B54) (y:=sub [1,1,1,1] B54) ?_
 refine TT.seq (x:=sub [1,1,1,0,0] B54) (y:=sub [1,1,1,0,1] B54) ?_
 refine TT.rg [0,1,2] [kp,kp,kp] rfl rfl ?_
 refine DL.mv 8 (a0_v) rfl rfl rfl ?_
 refine DL.pu 9 (.int .i64 (a0.length : Int)) rfl (p_slLen ty_u23 (RowV.sl hr_a0) rfl rfl) ?_
 refine DL.mv 10 (.int .i64 0) rfl rfl rfl ?_
 refine DL.nil ?_
 refine TT.block (c:=sub [1,1,1,0,1,0] B54) ?_
 refine TT.nilOwn (e:=50) ?_
 refine TT.loop (c:=sub [1,1,1,0,1,0,0] B54) ?_
 obtain ⟨z_o1_82,h110,h111⟩:=bind_some h
 refine TT.weak (der_arcs.L0_ok a0 a0_v hE hr_a0 ((a0.length : Int).toNat + 1) ([] : List Int) 0 0 (.slice none 0 0) (#[]) z_o1_82 (IntOwn.nil .u64) h110 (fun z_o1_82_v z_o1_82_c ho_z_o1_82 => ?_)) (Sub.cons rfl (Sub.cons rfl (Sub.cons rfl (Sub.cons rfl (Sub.cons rfl (Sub.nil _))))))
 refine TT.seq (x:=sub [1,1,1,1,0] B54) (y:=sub [1,1,1,1,1] B54) ?_
 refine TT.seq (x:=sub [1,1,1,1,0,0] B54) (y:=sub [1,1,1,1,0,1] B54) ?_
 refine TT.rg [0,1,2] [kp,kp,kp] rfl rfl ?_
 refine DL.mv 28 (z_o1_82_v) rfl rfl rfl ?_
 refine DL.pu 29 (.int .i64 (z_o1_82.length : Int)) rfl (p_slLen ty_u24 (OwnV.sl ho_z_o1_82) rfl rfl) ?_
 refine DL.pu 30 (.bool ((z_o1_82.length : Int) == 0)) rfl (p_eql rfl rfl rfl) ?_
 refine DL.nil ?_
 by_cases c113 : ((z_o1_82.length : Int) == 0) = true
 ·
  have h114:=ite_true c113 h111
  refine TT.cond_true (x:=sub [1,1,1,1,0,1,0] B54) (y:=sub [1,1,1,1,0,1,1] B54) rfl c113 ?_
  refine TT.seq (x:=sub [1,1,1,1,0,1,0,0] B54) (y:=sub [1,1,1,1,0,1,0,1] B54) ?_
  refine TT.rg [0] [kp] rfl rfl ?_
  refine DL.pu 2 (.slice none 0 0) rfl (p_assign rfl rfl) ?_
  refine DL.nil ?_
  refine TT.nilOwn (e:=50) ?_
  obtain rfl:=Option.some.inj h114
  exact retOwnE (j:=0) hE.base Tryd.func54 rfl rfl rfl (IntOwn.nil .u64)
 ·
  replace c113:=Bool.eq_false_iff.mpr c113
  have h116:=ite_false c113 h111
  refine TT.cond_false (x:=sub [1,1,1,1,0,1,0] B54) (y:=sub [1,1,1,1,0,1,1] B54) rfl c113 ?_
  refine TT.skip ?_
  refine TT.seq (x:=sub [1,1,1,1,1,0] B54) (y:=sub [1,1,1,1,1,1] B54) ?_
  refine TT.rg [0,1,2,3,4,5] [kp,kp,kq,kp,kp,kp] rfl rfl ?_
  refine DL.mv 31 (z_o1_82_v) rfl rfl rfl ?_
  obtain ⟨g117,h118⟩:=req_some h116
  refine DL.pu 32 (elp z_o1_82_v ((0 : Int).toNat)) rfl (p_slIx1 ty_u24 ty_s50 (OwnV.some ho_z_o1_82 (by decide) g117) (by decide) g117 rfl rfl rfl) ?_
  refine DL.qu 33 (.int .u64 (z_o1_82.getD ((0 : Int).toNat) 0)) rfl (f_loadEl (i:=0) rfl ho_z_o1_82 (encl_get .u64 (lt_len (by decide) g117)) ty_a50 rfl rfl) ?_
  obtain ⟨t119,e120,h121⟩:=nm_some h118
  refine DL.pu 34 (.int .u64 t119) rfl (by rw [e120]; exact p_quo (by decide) rfl rfl rfl) ?_
  refine DL.pu 35 (.int .u64 (if 2 < t119 then 2 else t119)) rfl (p_min2 rfl rfl rfl) ?_
  refine DL.pu 7 (.int .u64 (if 2 < t119 then 2 else t119)) rfl (p_assign rfl rfl) ?_
  refine DL.nil ?_
  refine TT.seq (x:=sub [1,1,1,1,1,1,0] B54) (y:=sub [1,1,1,1,1,1,1] B54) ?_
  refine TT.freezeAt (j:=0) hE rfl ?_
  intro M122 I122 hE122 hx122 hxI122 hb122
  have hr_122 : IntRow M122 .u64 z_o1_82_v z_o1_82:=IntOwn.stays ho_z_o1_82 hb122
  show TT _ _ _ _ _ _ _ _ []
  refine TT.rgD [0,1,2,3,4,5,6,7,8,9,10,11] [0,0,2,6,0,16,62,127,0,256,1023,2047] [kp,kp,kp,kp,kp,kp,kp,(.alloc,none),kp,kp,kx,kp] rfl mixed (by kernel_rfl) ?_
  intro w123 hl123 hj123 hz123
  refine DL.mv 36 (.int .u64 (if 2 < t119 then 2 else t119)) rfl rfl rfl ?_
  refine DL.mv 37 (z_o1_82_v) rfl rfl rfl ?_
  refine DL.pu 38 (elp z_o1_82_v ((0 : Int).toNat)) rfl (p_slIx1 ty_u24 ty_s50 (RowV.some hr_122 (by decide) g117) (by decide) g117 rfl rfl rfl) ?_
  refine DL.imm (v:=.int .u64 (z_o1_82.getD ((0 : Int).toNat) 0)) rfl (Wn.none rfl) rfl rfl rfl (i_loadEl (RowV.mono hr_122 hE122.mi) (encl_get .u64 (lt_len (by decide) g117)) ty_a50 rfl rfl) ?_
  refine DL.mv 40 (.int .u64 (if 2 < t119 then 2 else t119)) rfl rfl rfl ?_
  obtain ⟨t124,e125,h126⟩:=nm_some h121
  refine DL.pu 41 (.int .u64 t124) rfl (by rw [e125]; exact p_mul rfl rfl rfl) ?_
  obtain ⟨t127,e128,h129⟩:=nm_some h126
  refine DL.pu 42 (.int .u64 t127) rfl (by rw [e128]; exact p_sub rfl rfl rfl) ?_
  refine DL.newSl (zs:=[if 2 < t119 then 2 else t119,t127]) (n:=2) rfl (by decide) (i:=7) rfl (Wn.none rfl) rfl rfl rfl (f_buildSl (n:=2) (zs:=[if 2 < t119 then 2 else t119,t127]) (vs:=[(0,.int .u64 (if 2 < t119 then 2 else t119)),(1,.int .u64 t127)]) elem24 rfl rfl (by kernel_rfl) rfl (args_val2 rfl)) ?_
  intro s131_v s131_c ho_s131
  refine DL.mv 44 (z_o1_82_v) rfl rfl rfl ?_
  obtain ⟨g133,h134⟩:=req_some h129
  obtain ⟨v132,v132_e⟩ : ∃ u,u = subsl z_o1_82_v 1 (1 : Int).toNat z_o1_82.length:=⟨_,rfl⟩
  have hr_v132 : IntRow M122 .u64 v132 (z_o1_82.drop (1 : Int).toNat):=by rw [v132_e]; exact (IntRow.subL hr_122 (toNat_le g133))
  refine DL.pu 45 (v132) rfl (by rw [v132_e]; exact p_subL ty_u24 ty_s50 hr_122 (by decide) g133 rfl rfl rfl) ?_
  obtain ⟨g135,h136⟩:=req_some h134
  refine DL.appendI (fun s137_v s137_c => [(Value.ownBlock s137_v,.cells s137_c 50 (0,0))]) elem24 (j:=0) rfl ho_s131 g135 (by decide) (fun w hc => RowV.src (RowV.mono hr_v132 (hE122.ext hc)) (encl_one _ _)) (i:=10) rfl (Wn.none rfl) rfl rfl rfl rfl rfl rfl (fun _ _ => rfl) ?_
  intro s137_v s137_c ho_s137
  show DL _ _ _ _ _ _ _ _ _ _ _ _ [(Value.ownBlock s137_v,.cells s137_c 50 (0,0))]
  refine DL.pu 2 (s137_v) rfl (p_assign rfl rfl) ?_
  refine DL.nil' hl123 ?_
  obtain rfl:=Option.some.inj h136
  exact retOwnE (j:=0) hE122.base Tryd.func54 rfl rfl rfl ho_s137

@[reducible] def ref13_Same.Rec (r_ : Der → Der → Option (Bool)) : Prop:=∀ {a0 : Der} {a1 : Der} {a0_3 : Value} {a0_5 : Value} {a0_6 : Value} {a1_3 : Value} {a1_5 : Value} {a1_6 : Value} {r : Bool},r_ a0 a1 = some r → ∀ {M : Mem} (w : World) (hM : Ext M (heapOf w)) (hr_a0_3 : IntRow M .u8 a0_3 (Der.bytes a0)) (hr_a0_5 : IntRow M .u64 a0_5 (Der.arcs a0)) (hr_a0_6 : RowS ShDer M a0_6 (Tree.kids a0)) (hr_a1_3 : IntRow M .u8 a1_3 (Der.bytes a1)) (hr_a1_5 : IntRow M .u64 a1_5 (Der.arcs a1)) (hr_a1_6 : RowS ShDer M a1_6 (Tree.kids a1)),Calls Tryd.prog 18 #[.agg (Der.ce a0 a0_3 a0_5 a0_6),.agg (Der.ce a1 a1_3 a1_5 a1_6)] w (fun e w' => e = .returned (.bool r) ∧ Below w.heap.size w w')

/-! ### escutcheon/escutcheonref13.Same: function 18 -/
noncomputable def B18 : Code:=bodyOf Tryd.f18
def ref13_Same.L0 (a0 : Der) (a1 : Der) : Nat → Int → Option ((Unit) ⊕ (Bool))
 | 0,_ => none
 | k + 1,x5_63 => if (decide (x5_63 < ((Der.arcs a0).length : Int))) = true then (req (0 ≤ x5_63) (req (x5_63 < ((Der.arcs a0).length : Int)) (req (x5_63 < ((Der.arcs a1).length : Int)) (nm (((Der.arcs a0).getD x5_63.toNat 0) != ((Der.arcs a1).getD x5_63.toNat 0)) fun t139 => if t139 = true then (some (.inr false)) else (ref13_Same.L0 a0 a1 k (IntKind.i64.wrap (x5_63 + 1))))))) else (some (.inl ()))
set_option maxRecDepth 20000 in
theorem ref13_Same.L0_ok (a0 : Der) (a0_3 : Value) (a0_5 : Value) (a0_6 : Value) (a1 : Der) (a1_3 : Value) (a1_5 : Value) (a1_6 : Value) (b1 : Nat) (b2 : Nat) {r : Bool}  {w0 : World} {M0 M I : Mem} {K : List Item} (hE : Env w0 M0 M I) (hr_a0_5 : IntRow M .u64 a0_5 (Der.arcs a0)) (hr_a1_5 : IntRow M .u64 a1_5 (Der.arcs a1)) :
  ∀ (k : Nat) (x5_63 : Int) (q : (Unit) ⊕ (Bool)) (h : ref13_Same.L0 a0 a1 k x5_63 = some q) (hk : match (generalizing:=false) q with | .inl () => (TT Tryd.prog 18 (Post (fun u => u = .bool r) w0) 97 w0 I K [(2,ptr b1 0),(3,ptr b2 0)] [(some b2,.cells ((Der.ce a1 a1_3 a1_5 a1_6)) 27 (0,0)),(some b1,.cells ((Der.ce a0 a0_3 a0_5 a0_6)) 27 (0,0))]) | .inr rq => rq = r),
   TT Tryd.prog 18 (Post (fun u => u = .bool r) w0) 97 w0 I (.code (sub [1,1,0,1,0,0] B18) :: .inLoop (sub [1,1,0,1,0,0] B18) :: .inBlock 0 :: K) [(2,ptr b1 0),(3,ptr b2 0),(5,.int .i64 x5_63)] [(some b2,.cells ((Der.ce a1 a1_3 a1_5 a1_6)) 27 (0,0)),(some b1,.cells ((Der.ce a0 a0_3 a0_5 a0_6)) 27 (0,0))]:=by
 intro k
 induction k with
 | zero => intro x5_63 q h; simp [ref13_Same.L0] at h
 | succ k ih =>
  intro x5_63 q h hk
  unfold ref13_Same.L0 at h
  refine TT.seq (x:=sub [1,1,0,1,0,0,0] B18) (y:=sub [1,1,0,1,0,0,1] B18) ?_
  refine TT.seq (x:=sub [1,1,0,1,0,0,0,0] B18) (y:=sub [1,1,0,1,0,0,0,1] B18) ?_
  refine TT.rg [0,1,2,3,4] [kp,kp,kq,kp,kp] rfl rfl ?_
  refine DL.mv 60 (.int .i64 x5_63) rfl rfl rfl ?_
  refine DL.pu 61 (ptr b1 5) rfl (p_fieldAddr ty_f27_5 rfl rfl) ?_
  refine DL.qu 62 (a0_5) rfl (f_load (j:=1) ty_a24 rfl rfl rfl rfl) ?_
  refine DL.pu 63 (.int .i64 ((Der.arcs a0).length : Int)) rfl (p_slLen ty_u24 (RowV.sl hr_a0_5) rfl rfl) ?_
  refine DL.pu 64 (.bool (decide (x5_63 < ((Der.arcs a0).length : Int)))) rfl (p_lss rfl rfl rfl) ?_
  refine DL.nil ?_
  by_cases c130 : (decide (x5_63 < ((Der.arcs a0).length : Int))) = true
  ·
   have h131:=ite_true c130 h
   refine TT.cond_true (x:=sub [1,1,0,1,0,0,0,1,0] B18) (y:=sub [1,1,0,1,0,0,0,1,1] B18) rfl c130 ?_
   refine TT.skip ?_
   refine TT.seq (x:=sub [1,1,0,1,0,0,1,0] B18) (y:=sub [1,1,0,1,0,0,1,1] B18) ?_
   refine TT.block (c:=sub [1,1,0,1,0,0,1,0,0] B18) ?_
   refine TT.seq (x:=sub [1,1,0,1,0,0,1,0,0,0] B18) (y:=sub [1,1,0,1,0,0,1,0,0,1] B18) ?_
   refine TT.rgD [0,1,2,3,4,5,6,7,8,9,10] [0,1,0,7,15,0,32,0,224,480,1023] [kp,(.look,some 1),kp,kp,kq,kp,(.look,some 0),kp,kp,kq,kp] rfl mixed (by kernel_rfl) ?_
   intro w132 hl132 hj132 hz132
   refine DL.pu 67 (ptr b1 5) rfl (p_fieldAddr ty_f27_5 rfl rfl) ?_
   refine DL.look (v:=a0_5) (x:=1) (b:=b1) (i:=1) rfl (Wn.none rfl) rfl rfl rfl rfl rfl (List.mem_of_getElem? (i:=1) rfl) (b_load ty_a24 rfl rfl rfl) ?_
   refine DL.mv 69 (.int .i64 x5_63) rfl rfl rfl ?_
   obtain ⟨g133,h134⟩:=req_some h131
   obtain ⟨g135,h136⟩:=req_some h134
   refine DL.pu 70 (elp a0_5 x5_63.toNat) rfl (p_slIx1 ty_u24 ty_s50 (RowV.some hr_a0_5 g133 g135) g133 g135 rfl rfl rfl) ?_
   refine DL.qu 71 (.int .u64 ((Der.arcs a0).getD x5_63.toNat 0)) rfl (q_loadEl (fun w hc => hE.imm hc) hr_a0_5 (encl_get .u64 (lt_len g133 g135)) ty_a50 rfl rfl) ?_
   refine DL.pu 72 (ptr b2 5) rfl (p_fieldAddr ty_f27_5 rfl rfl) ?_
   refine DL.look (v:=a1_5) (x:=0) (b:=b2) (i:=6) rfl (Wn.none rfl) rfl rfl rfl rfl rfl (List.mem_of_getElem? (i:=0) rfl) (b_load ty_a24 rfl rfl rfl) ?_
   refine DL.mv 74 (.int .i64 x5_63) rfl rfl rfl ?_
   obtain ⟨g137,h138⟩:=req_some h136
   refine DL.pu 75 (elp a1_5 x5_63.toNat) rfl (p_slIx1 ty_u24 ty_s50 (RowV.some hr_a1_5 g133 g137) g133 g137 rfl rfl rfl) ?_
   refine DL.qu 76 (.int .u64 ((Der.arcs a1).getD x5_63.toNat 0)) rfl (q_loadEl (fun w hc => hE.imm hc) hr_a1_5 (encl_get .u64 (lt_len g133 g137)) ty_a50 rfl rfl) ?_
   obtain ⟨t139,e140,h141⟩:=nm_some h138
   refine DL.pu 77 (.bool t139) rfl (by rw [e140]; exact p_neq rfl rfl rfl) ?_
   refine DL.nil' hl132 ?_
   by_cases c142 : t139 = true
   ·
    have h143:=ite_true c142 h141
    refine TT.cond_true (x:=sub [1,1,0,1,0,0,1,0,0,1,0] B18) (y:=sub [1,1,0,1,0,0,1,0,0,1,1] B18) rfl c142 ?_
    refine TT.seq (x:=sub [1,1,0,1,0,0,1,0,0,1,0,0] B18) (y:=sub [1,1,0,1,0,0,1,0,0,1,0,1] B18) ?_
    refine TT.rg [0] [kp] rfl rfl ?_
    refine DL.pu 4 (.bool false) rfl (p_assign rfl rfl) ?_
    refine DL.nil ?_
    obtain rfl:=Option.some.inj h143
    have k144 : false = r:=hk
    subst k144
    exact retnE (rs:=[.tmp 4]) (vs:=[.bool false]) hE.base Tryd.func18 rfl rfl rfl (res_cons (ResV.tmp rfl) res_nil) rfl
   ·
    replace c142:=Bool.eq_false_iff.mpr c142
    have h145:=ite_false c142 h141
    refine TT.cond_false (x:=sub [1,1,0,1,0,0,1,0,0,1,0] B18) (y:=sub [1,1,0,1,0,0,1,0,0,1,1] B18) rfl c142 ?_
    refine TT.skip ?_
    refine TT.inBlock ?_
    refine TT.rg [0,1,2] [kp,kp,kp] rfl rfl ?_
    refine DL.mv 65 (.int .i64 x5_63) rfl rfl rfl ?_
    refine DL.pu 66 (.int .i64 (IntKind.i64.wrap (x5_63 + 1))) rfl (p_add rfl rfl rfl) ?_
    refine DL.pu 5 (.int .i64 (IntKind.i64.wrap (x5_63 + 1))) rfl (p_assign rfl rfl) ?_
    refine DL.nil ?_
    refine TT.inLoop ?_
    exact TT.weak (ih (IntKind.i64.wrap (x5_63 + 1)) _ h145 hk) (Sub.cons rfl (Sub.cons rfl (Sub.cons rfl (Sub.nil _))))
  ·
   replace c130:=Bool.eq_false_iff.mpr c130
   have h146:=ite_false c130 h
   refine TT.cond_false (x:=sub [1,1,0,1,0,0,0,1,0] B18) (y:=sub [1,1,0,1,0,0,0,1,1] B18) rfl c130 ?_
   refine TT.exit rfl ?_
   obtain rfl:=Option.some.inj h146
   exact TT.weak (hk) (Sub.cons rfl (Sub.cons rfl (Sub.nil _)))

def ref13_Same.L1 (r_ref13_Same : Der → Der → Option (Bool)) (a0 : Der) (a1 : Der) : Nat → Int → Option ((Unit) ⊕ (Bool))
 | 0,_ => none
 | k + 1,x6_151 => nm (decide (x6_151 < ((Tree.kids a0).length : Int))) fun t226 => if t226 = true then (req (0 ≤ x6_151) (req (x6_151 < ((Tree.kids a0).length : Int)) (nm ((Tree.kids a0).getD x6_151.toNat Der.dflt) fun t237 => req (x6_151 < ((Tree.kids a1).length : Int)) (nm ((Tree.kids a1).getD x6_151.toNat Der.dflt) fun t243 => (r_ref13_Same t237 t243).bind fun t246 => if (!t246) = true then (some (.inr false)) else (ref13_Same.L1 r_ref13_Same a0 a1 k (IntKind.i64.wrap (x6_151 + 1))))))) else (some (.inl ()))
set_option maxRecDepth 20000 in
theorem ref13_Same.L1_ok {r_ref13_Same : Der → Der → Option (Bool)} (hr_ref13_Same : ref13_Same.Rec r_ref13_Same) (a0 : Der) (a0_3 : Value) (a0_5 : Value) (a0_6 : Value) (a1 : Der) (a1_3 : Value) (a1_5 : Value) (a1_6 : Value) (b1 : Nat) (b2 : Nat) {r : Bool}  {w0 : World} {M0 M I : Mem} {K : List Item} (hE : Env w0 M0 M I) (hr_a0_6 : RowS ShDer M a0_6 (Tree.kids a0)) (hr_a1_6 : RowS ShDer M a1_6 (Tree.kids a1)) :
  ∀ (k : Nat) (x6_151 : Int) (q : (Unit) ⊕ (Bool)) (h : ref13_Same.L1 r_ref13_Same a0 a1 k x6_151 = some q) (hk : match (generalizing:=false) q with | .inl () => (TT Tryd.prog 18 (Post (fun u => u = .bool r) w0) 97 w0 I K [] [(some b2,.cells ((Der.ce a1 a1_3 a1_5 a1_6)) 27 (0,0)),(some b1,.cells ((Der.ce a0 a0_3 a0_5 a0_6)) 27 (0,0))]) | .inr rq => rq = r),
   TT Tryd.prog 18 (Post (fun u => u = .bool r) w0) 97 w0 I (.code (sub [1,1,1,0,1,0,0] B18) :: .inLoop (sub [1,1,1,0,1,0,0] B18) :: .inBlock 2 :: K) [(2,ptr b1 0),(3,ptr b2 0),(6,.int .i64 x6_151)] [(some b2,.cells ((Der.ce a1 a1_3 a1_5 a1_6)) 27 (0,0)),(some b1,.cells ((Der.ce a0 a0_3 a0_5 a0_6)) 27 (0,0))]:=by
 intro k
 induction k with
 | zero => intro x6_151 q h; simp [ref13_Same.L1] at h
 | succ k ih =>
  intro x6_151 q h hk
  unfold ref13_Same.L1 at h
  refine TT.seq (x:=sub [1,1,1,0,1,0,0,0] B18) (y:=sub [1,1,1,0,1,0,0,1] B18) ?_
  refine TT.seq (x:=sub [1,1,1,0,1,0,0,0,0] B18) (y:=sub [1,1,1,0,1,0,0,0,1] B18) ?_
  refine TT.rg [0,1,2,3,4] [kp,kp,kq,kp,kp] rfl rfl ?_
  refine DL.mv 78 (.int .i64 x6_151) rfl rfl rfl ?_
  refine DL.pu 79 (ptr b1 6) rfl (p_fieldAddr ty_f27_6 rfl rfl) ?_
  refine DL.qu 80 (a0_6) rfl (f_load (j:=1) ty_a25 rfl rfl rfl rfl) ?_
  refine DL.pu 81 (.int .i64 ((Tree.kids a0).length : Int)) rfl (p_slLen ty_u25 (RowS.sl hr_a0_6) rfl rfl) ?_
  obtain ⟨t226,e227,h228⟩:=nm_some h
  refine DL.pu 82 (.bool t226) rfl (by rw [e227]; exact p_lss rfl rfl rfl) ?_
  refine DL.nil ?_
  by_cases c229 : t226 = true
  ·
   have h230:=ite_true c229 h228
   refine TT.cond_true (x:=sub [1,1,1,0,1,0,0,0,1,0] B18) (y:=sub [1,1,1,0,1,0,0,0,1,1] B18) rfl c229 ?_
   refine TT.skip ?_
   refine TT.seq (x:=sub [1,1,1,0,1,0,0,1,0] B18) (y:=sub [1,1,1,0,1,0,0,1,1] B18) ?_
   refine TT.block (c:=sub [1,1,1,0,1,0,0,1,0,0] B18) ?_
   refine TT.seq (x:=sub [1,1,1,0,1,0,0,1,0,0,0] B18) (y:=sub [1,1,1,0,1,0,0,1,0,0,1] B18) ?_
   refine TT.rgD [0,1,2,3,4,5,6,7,8,9,10,11] [0,1,0,7,15,0,32,0,224,480,1023,2047] [kp,(.look,some 1),kp,kp,kq,kp,(.look,some 0),kp,kp,kq,kq,kp] rfl mixed (by kernel_rfl) ?_
   intro w231 hl231 hj231 hz231
   refine DL.pu 85 (ptr b1 6) rfl (p_fieldAddr ty_f27_6 rfl rfl) ?_
   refine DL.look (v:=a0_6) (x:=1) (b:=b1) (i:=1) rfl (Wn.none rfl) rfl rfl rfl rfl rfl (List.mem_of_getElem? (i:=1) rfl) (b_load ty_a25 rfl rfl rfl) ?_
   refine DL.mv 87 (.int .i64 x6_151) rfl rfl rfl ?_
   obtain ⟨g232,h233⟩:=req_some h230
   obtain ⟨g234,h235⟩:=req_some h233
   refine DL.pu 88 (elp a0_6 (x6_151.toNat * 7)) rfl (p_slIx ty_u25 ty_s27 (RowS.some hr_a0_6 g232 g234) g232 g234 rfl rfl rfl) ?_
   obtain ⟨t237,e238,h239⟩:=nm_some h235
   obtain ⟨cs236,hc236,hl236⟩:=id (hr_a0_6)
   have q236:=hl236 _ _ (getD_some Der.dflt (lt_len g232 g234)); rw [← e238] at q236
   obtain ⟨t237_3,t237_5,t237_6,hq236,hr_t237_3,hr_t237_5,hr_t237_6⟩:=Der.op q236
   refine DL.qu 89 (.agg (Der.ce t237 t237_3 t237_5 t237_6)) rfl (q_loadElA (fun w hc => hE.imm hc) hc236 hq236 (lt_len g232 g234) ty_a27 ty_s27 rfl rfl) ?_
   refine DL.pu 90 (ptr b2 6) rfl (p_fieldAddr ty_f27_6 rfl rfl) ?_
   refine DL.look (v:=a1_6) (x:=0) (b:=b2) (i:=6) rfl (Wn.none rfl) rfl rfl rfl rfl rfl (List.mem_of_getElem? (i:=0) rfl) (b_load ty_a25 rfl rfl rfl) ?_
   refine DL.mv 92 (.int .i64 x6_151) rfl rfl rfl ?_
   obtain ⟨g240,h241⟩:=req_some h239
   refine DL.pu 93 (elp a1_6 (x6_151.toNat * 7)) rfl (p_slIx ty_u25 ty_s27 (RowS.some hr_a1_6 g232 g240) g232 g240 rfl rfl rfl) ?_
   obtain ⟨t243,e244,h245⟩:=nm_some h241
   obtain ⟨cs242,hc242,hl242⟩:=id (hr_a1_6)
   have q242:=hl242 _ _ (getD_some Der.dflt (lt_len g232 g240)); rw [← e244] at q242
   obtain ⟨t243_3,t243_5,t243_6,hq242,hr_t243_3,hr_t243_5,hr_t243_6⟩:=Der.op q242
   refine DL.qu 94 (.agg (Der.ce t243 t243_3 t243_5 t243_6)) rfl (q_loadElA (fun w hc => hE.imm hc) hc242 hq242 (lt_len g232 g240) ty_a27 ty_s27 rfl rfl) ?_
   obtain ⟨t246,h247,h248⟩:=bind_some h245
   refine DL.qu 95 (.bool t246) rfl (f_callR rfl rfl (args_val (vs:=[.agg (Der.ce t237 t237_3 t237_5 t237_6),.agg (Der.ce t243 t243_3 t243_5 t243_6)]) rfl) (fun w => enter18 _ w) (fun w hc => hr_ref13_Same h247 (M:=M) w (hE.ext hc) hr_t237_3 hr_t237_5 hr_t237_6 hr_t243_3 hr_t243_5 hr_t243_6)) ?_
   refine DL.pu 96 (.bool (!t246)) rfl (p_not rfl rfl) ?_
   refine DL.nil' hl231 ?_
   by_cases c249 : (!t246) = true
   ·
    have h250:=ite_true c249 h248
    refine TT.cond_true (x:=sub [1,1,1,0,1,0,0,1,0,0,1,0] B18) (y:=sub [1,1,1,0,1,0,0,1,0,0,1,1] B18) rfl c249 ?_
    refine TT.seq (x:=sub [1,1,1,0,1,0,0,1,0,0,1,0,0] B18) (y:=sub [1,1,1,0,1,0,0,1,0,0,1,0,1] B18) ?_
    refine TT.rg [0] [kp] rfl rfl ?_
    refine DL.pu 4 (.bool false) rfl (p_assign rfl rfl) ?_
    refine DL.nil ?_
    obtain rfl:=Option.some.inj h250
    have k251 : false = r:=hk
    subst k251
    exact retnE (rs:=[.tmp 4]) (vs:=[.bool false]) hE.base Tryd.func18 rfl rfl rfl (res_cons (ResV.tmp rfl) res_nil) rfl
   ·
    replace c249:=Bool.eq_false_iff.mpr c249
    have h252:=ite_false c249 h248
    refine TT.cond_false (x:=sub [1,1,1,0,1,0,0,1,0,0,1,0] B18) (y:=sub [1,1,1,0,1,0,0,1,0,0,1,1] B18) rfl c249 ?_
    refine TT.skip ?_
    refine TT.inBlock ?_
    refine TT.rg [0,1,2] [kp,kp,kp] rfl rfl ?_
    refine DL.mv 83 (.int .i64 x6_151) rfl rfl rfl ?_
    refine DL.pu 84 (.int .i64 (IntKind.i64.wrap (x6_151 + 1))) rfl (p_add rfl rfl rfl) ?_
    refine DL.pu 6 (.int .i64 (IntKind.i64.wrap (x6_151 + 1))) rfl (p_assign rfl rfl) ?_
    refine DL.nil ?_
    refine TT.inLoop ?_
    exact TT.weak (ih (IntKind.i64.wrap (x6_151 + 1)) _ h252 hk) (Sub.cons rfl (Sub.cons rfl (Sub.cons rfl (Sub.nil _))))
  ·
   replace c229:=Bool.eq_false_iff.mpr c229
   have h253:=ite_false c229 h228
   refine TT.cond_false (x:=sub [1,1,1,0,1,0,0,0,1,0] B18) (y:=sub [1,1,1,0,1,0,0,0,1,1] B18) rfl c229 ?_
   refine TT.exit rfl ?_
   obtain rfl:=Option.some.inj h253
   exact TT.weak (hk) (Sub.nil _)

def ref13_Same.F (r_ref13_Same : Der → Der → Option (Bool)) (a0 : Der) (a1 : Der) : Option (Bool):=(if ((Der.kind a0) != (Der.kind a1)) = true then (some true) else (some (!((Der.flag a0) == (Der.flag a1))))).bind fun q4 => (if q4 = true then (some true) else (some ((Der.num a0) != (Der.num a1)))).bind fun q12 => (if q12 = true then (some true) else (nm (!((bytesL (Der.bytes a0)) == (bytesL (Der.bytes a1)))) fun t27 => some t27)).bind fun q20 => (if q20 = true then (some true) else (some (!((Der.text a0) == (Der.text a1))))).bind fun q31 => (if q31 = true then (some true) else (nm (((Der.arcs a0).length : Int) != ((Der.arcs a1).length : Int)) fun t46 => some t46)).bind fun q39 => (if q39 = true then (some true) else (nm (((Tree.kids a0).length : Int) != ((Tree.kids a1).length : Int)) fun t57 => some t57)).bind fun q50 => if q50 = true then (some false) else (onw (ref13_Same.L0 a0 a1 (((Der.arcs a0).length : Int).toNat + 1) 0) (fun _ => onw (ref13_Same.L1 r_ref13_Same a0 a1 (((Tree.kids a0).length : Int).toNat + 1) 0) (fun _ => some true) (fun r => some r)) (fun r => some r))
set_option maxRecDepth 20000 in
theorem ref13_Same.okF {r_ref13_Same : Der → Der → Option (Bool)} (hr_ref13_Same : ref13_Same.Rec r_ref13_Same) {a0 : Der} {a1 : Der} {a0_3 : Value} {a0_5 : Value} {a0_6 : Value} {a1_3 : Value} {a1_5 : Value} {a1_6 : Value} {r : Bool} (h : ref13_Same.F r_ref13_Same a0 a1 = some r) {M : Mem} (w : World) (hM : Ext M (heapOf w)) (hr_a0_3 : IntRow M .u8 a0_3 (Der.bytes a0)) (hr_a0_5 : IntRow M .u64 a0_5 (Der.arcs a0)) (hr_a0_6 : RowS ShDer M a0_6 (Tree.kids a0)) (hr_a1_3 : IntRow M .u8 a1_3 (Der.bytes a1)) (hr_a1_5 : IntRow M .u64 a1_5 (Der.arcs a1)) (hr_a1_6 : RowS ShDer M a1_6 (Tree.kids a1)) : Calls Tryd.prog 18 #[.agg (Der.ce a0 a0_3 a0_5 a0_6),.agg (Der.ce a1 a1_3 a1_5 a1_6)] w (Post (fun u => u = .bool r) w):=by
 unfold ref13_Same.F at h
 have hE:=Env.start hM
 refine calls_of_TT (N:=97) (S:=[(0,.agg (Der.ce a0 a0_3 a0_5 a0_6)),(1,.agg (Der.ce a1 a1_3 a1_5 a1_6))]) (c:=B18) Tryd.func18 rfl rfl rfl (by simp) ?_
 show TT _ _ _ _ _ _ [.code (sub [] B18)] _ _
 refine TT.seq (x:=sub [0] B18) (y:=sub [1] B18) ?_
 refine TT.rg [0,1,2] [(.alloc,none),(.alloc,none),kp] rfl rfl ?_
 refine DL.new (ob:=.cells ((Der.ce a0 a0_3 a0_5 a0_6)) 27) (mk:=fun b => ptr b 0) (i:=0) rfl (Wn.none rfl) rfl rfl rfl (f_box (v:=.agg (Der.ce a0 a0_3 a0_5 a0_6)) rfl rfl) ?_
 intro b1 hb1
 refine DL.new (ob:=.cells ((Der.ce a1 a1_3 a1_5 a1_6)) 27) (mk:=fun b => ptr b 0) (i:=1) rfl (Wn.none rfl) rfl rfl rfl (f_box (v:=.agg (Der.ce a1 a1_3 a1_5 a1_6)) rfl rfl) ?_
 intro b2 hb2
 refine DL.pu 4 (.bool false) rfl (p_assign rfl rfl) ?_
 refine DL.nil ?_
 refine TT.seq (x:=sub [1,0] B18) (y:=sub [1,1] B18) ?_
 refine TT.seq (x:=sub [1,0,0] B18) (y:=sub [1,0,1] B18) ?_
 refine TT.rg [0,1,2,3,4,5,6,7,8,9,10,11,12,13,14,15,16,17,18,19,20,21,22,23,24,25,26,27,28,29,30,31,32,33,34,35,36,37,38,39,40,41,42,43,44,45,46,47,48,49,50,51,52] [kp,kq,kp,kq,kp,kp,kp,kq,kp,kq,kp,kp,kp,kp,kq,kp,kq,kp,kp,kp,kp,kq,kq,kp,kq,kq,kp,kp,kp,kp,kq,kp,kq,kp,kp,kp,kp,kq,kp,kp,kq,kp,kp,kp,kp,kp,kq,kp,kp,kq,kp,kp,kp] rfl rfl ?_
 refine DL.pu 7 (ptr b1 0) rfl (p_fieldAddr ty_f27_0 rfl rfl) ?_
 refine DL.qu 8 (.int .i64 (Der.kind a0)) rfl (f_load (j:=1) ty_a22 rfl rfl rfl rfl) ?_
 refine DL.pu 9 (ptr b2 0) rfl (p_fieldAddr ty_f27_0 rfl rfl) ?_
 refine DL.qu 10 (.int .i64 (Der.kind a1)) rfl (f_load (j:=0) ty_a22 rfl rfl rfl rfl) ?_
 refine DL.pu 11 (.bool ((Der.kind a0) != (Der.kind a1))) rfl (p_neq rfl rfl rfl) ?_
 refine DL.mv 12 (.bool ((Der.kind a0) != (Der.kind a1))) rfl rfl rfl ?_
 obtain ⟨q4,h5,h6⟩:=bind_some h
 refine DL.cut [(2,ptr b1 0),(3,ptr b2 0),(18,.bool q4)] [12,13,14,15,16,17,18,19,20,21,22,23,24,25,26,27,28,29,30,31,32,33,34,35,36,37,38,39,40,41,42,43,44,45,46,47,48,49,50,51,52] ?_ (fun J7 => ?_)
 ·
  refine DL.mv 19 (.bool q4) rfl rfl rfl ?_
  obtain ⟨q12,h13,h14⟩:=bind_some h6
  refine DL.cut [(2,ptr b1 0),(3,ptr b2 0),(25,.bool q12)] [19,20,21,22,23,24,25,26,27,28,29,30,31,32,33,34,35,36,37,38,39,40,41,42,43,44,45,46,47,48,49,50,51,52] ?_ (fun J15 => ?_)
  ·
   refine DL.mv 26 (.bool q12) rfl rfl rfl ?_
   obtain ⟨q20,h21,h22⟩:=bind_some h14
   refine DL.cut [(2,ptr b1 0),(3,ptr b2 0),(34,.bool q20)] [28,29,30,31,32,33,34,35,36,37,38,39,40,41,42,43,44,45,46,47,48,49,50,51,52] ?_ (fun J23 => ?_)
   ·
    refine DL.mv 35 (.bool q20) rfl rfl rfl ?_
    obtain ⟨q31,h32,h33⟩:=bind_some h22
    refine DL.cut [(2,ptr b1 0),(3,ptr b2 0),(41,.bool q31)] [35,36,37,38,39,40,41,42,43,44,45,46,47,48,49,50,51,52] ?_ (fun J34 => ?_)
    ·
     refine DL.mv 42 (.bool q31) rfl rfl rfl ?_
     obtain ⟨q39,h40,h41⟩:=bind_some h33
     refine DL.cut [(2,ptr b1 0),(3,ptr b2 0),(50,.bool q39)] [44,45,46,47,48,49,50,51,52] ?_ (fun J42 => ?_)
     ·
      refine DL.mv 51 (.bool q39) rfl rfl rfl ?_
      obtain ⟨q50,h51,h52⟩:=bind_some h41
      refine DL.cut [(2,ptr b1 0),(3,ptr b2 0),(59,.bool q50)] [] ?_ (fun J53 => ?_)
      ·
       refine DL.nil ?_
       by_cases c60 : q50 = true
       ·
        have h61:=ite_true c60 h52
        refine TT.cond_true (x:=sub [1,0,1,0] B18) (y:=sub [1,0,1,1] B18) rfl c60 ?_
        refine TT.seq (x:=sub [1,0,1,0,0] B18) (y:=sub [1,0,1,0,1] B18) ?_
        refine TT.rg [0] [kp] rfl rfl ?_
        refine DL.pu 4 (.bool false) rfl (p_assign rfl rfl) ?_
        refine DL.nil ?_
        obtain rfl:=Option.some.inj h61
        exact retnE (rs:=[.tmp 4]) (vs:=[.bool false]) hE.base Tryd.func18 rfl rfl rfl (res_cons (ResV.tmp rfl) res_nil) rfl
       ·
        replace c60:=Bool.eq_false_iff.mpr c60
        have h62:=ite_false c60 h52
        refine TT.cond_false (x:=sub [1,0,1,0] B18) (y:=sub [1,0,1,1] B18) rfl c60 ?_
        refine TT.skip ?_
        refine TT.seq (x:=sub [1,1,0] B18) (y:=sub [1,1,1] B18) ?_
        refine TT.seq (x:=sub [1,1,0,0] B18) (y:=sub [1,1,0,1] B18) ?_
        refine TT.rg [0] [kp] rfl rfl ?_
        refine DL.pu 5 (.int .i64 0) rfl (p_assign rfl rfl) ?_
        refine DL.nil ?_
        refine TT.block (c:=sub [1,1,0,1,0] B18) ?_
        refine TT.loop (c:=sub [1,1,0,1,0,0] B18) ?_
        rcases onw_some h62 with ⟨_,h147,h148⟩ | ⟨r150,h147,h148⟩
        ·
         refine TT.weak (ref13_Same.L0_ok a0 a0_3 a0_5 a0_6 a1 a1_3 a1_5 a1_6 b1 b2 hE hr_a0_5 hr_a1_5 (((Der.arcs a0).length : Int).toNat + 1) 0 (.inl ()) h147 (?_)) (Sub.cons rfl (Sub.cons rfl (Sub.cons rfl (Sub.nil _))))
         show TT _ _ _ _ _ _ _ _ _
         refine TT.seq (x:=sub [1,1,1,0] B18) (y:=sub [1,1,1,1] B18) ?_
         refine TT.seq (x:=sub [1,1,1,0,0] B18) (y:=sub [1,1,1,0,1] B18) ?_
         refine TT.rg [0] [kp] rfl rfl ?_
         refine DL.pu 6 (.int .i64 0) rfl (p_assign rfl rfl) ?_
         refine DL.nil ?_
         refine TT.block (c:=sub [1,1,1,0,1,0] B18) ?_
         refine TT.loop (c:=sub [1,1,1,0,1,0,0] B18) ?_
         rcases onw_some h148 with ⟨_,h254,h255⟩ | ⟨r257,h254,h255⟩
         ·
          refine TT.weak (ref13_Same.L1_ok hr_ref13_Same a0 a0_3 a0_5 a0_6 a1 a1_3 a1_5 a1_6 b1 b2 hE hr_a0_6 hr_a1_6 (((Tree.kids a0).length : Int).toNat + 1) 0 (.inl ()) h254 (?_)) (Sub.cons rfl (Sub.cons rfl (Sub.cons rfl (Sub.nil _))))
          show TT _ _ _ _ _ _ _ _ _
          refine TT.seq (x:=sub [1,1,1,1,0] B18) (y:=sub [1,1,1,1,1] B18) ?_
          refine TT.rg [0] [kp] rfl rfl ?_
          refine DL.pu 4 (.bool true) rfl (p_assign rfl rfl) ?_
          refine DL.nil ?_
          obtain rfl:=Option.some.inj h255
          exact retnE (rs:=[.tmp 4]) (vs:=[.bool true]) hE.base Tryd.func18 rfl rfl rfl (res_cons (ResV.tmp rfl) res_nil) rfl
         ·
          obtain rfl:=Option.some.inj h255
          exact TT.weak (ref13_Same.L1_ok hr_ref13_Same a0 a0_3 a0_5 a0_6 a1 a1_3 a1_5 a1_6 b1 b2 hE hr_a0_6 hr_a1_6 (((Tree.kids a0).length : Int).toNat + 1) 0 (.inr r257) h254 rfl) (Sub.cons rfl (Sub.cons rfl (Sub.cons rfl (Sub.nil _))))
        ·
         obtain rfl:=Option.some.inj h148
         exact TT.weak (ref13_Same.L0_ok a0 a0_3 a0_5 a0_6 a1 a1_3 a1_5 a1_6 b1 b2 hE hr_a0_5 hr_a1_5 (((Der.arcs a0).length : Int).toNat + 1) 0 (.inr r150) h147 rfl) (Sub.cons rfl (Sub.cons rfl (Sub.cons rfl (Sub.nil _))))
      ·
       by_cases c54 : q39 = true
       ·
        have h55:=ite_true c54 h51
        refine DL.not (i:=45) rfl (Wn.yes c54 rfl rfl rfl rfl) rfl rfl ?_
        refine DL.not (i:=46) rfl (Wn.yes c54 rfl rfl rfl rfl) rfl rfl ?_
        refine DL.not (i:=47) rfl (Wn.yes c54 rfl rfl rfl rfl) rfl rfl ?_
        refine DL.not (i:=48) rfl (Wn.yes c54 rfl rfl rfl rfl) rfl rfl ?_
        refine DL.not (i:=49) rfl (Wn.yes c54 rfl rfl rfl rfl) rfl rfl ?_
        refine DL.not (i:=50) rfl (Wn.yes c54 rfl rfl rfl rfl) rfl rfl ?_
        refine DL.not (i:=51) rfl (Wn.yes c54 rfl rfl rfl rfl) rfl rfl ?_
        refine DL.pu 59 (.bool true) rfl (p_pick_t c54 rfl rfl rfl) ?_
        obtain rfl:=Option.some.inj h55
        exact DL.weak J53 (Sub.cons rfl (Sub.cons rfl (Sub.cons rfl (Sub.nil _))))
       ·
        replace c54:=Bool.eq_false_iff.mpr c54
        have h56:=ite_false c54 h51
        refine DL.pure (v:=ptr b1 6) rfl (Wn.no c54 rfl rfl rfl rfl) rfl rfl rfl (p_fieldAddr ty_f27_6 rfl rfl) ?_
        refine DL.quiet (v:=a0_6) rfl (Wn.no c54 rfl rfl rfl rfl) rfl rfl rfl (f_load (j:=1) ty_a25 rfl rfl rfl rfl) ?_
        refine DL.pure (v:=.int .i64 ((Tree.kids a0).length : Int)) rfl (Wn.no c54 rfl rfl rfl rfl) rfl rfl rfl (p_slLen ty_u25 (RowS.sl hr_a0_6) rfl rfl) ?_
        refine DL.pure (v:=ptr b2 6) rfl (Wn.no c54 rfl rfl rfl rfl) rfl rfl rfl (p_fieldAddr ty_f27_6 rfl rfl) ?_
        refine DL.quiet (v:=a1_6) rfl (Wn.no c54 rfl rfl rfl rfl) rfl rfl rfl (f_load (j:=0) ty_a25 rfl rfl rfl rfl) ?_
        refine DL.pure (v:=.int .i64 ((Tree.kids a1).length : Int)) rfl (Wn.no c54 rfl rfl rfl rfl) rfl rfl rfl (p_slLen ty_u25 (RowS.sl hr_a1_6) rfl rfl) ?_
        obtain ⟨t57,e58,h59⟩:=nm_some h56
        refine DL.pure (v:=.bool t57) rfl (Wn.no c54 rfl rfl rfl rfl) rfl rfl rfl (by rw [e58]; exact p_neq rfl rfl rfl) ?_
        refine DL.pu 59 (.bool t57) rfl (p_pick_f c54 rfl rfl rfl) ?_
        obtain rfl:=Option.some.inj h59
        exact DL.weak J53 (Sub.cons rfl (Sub.cons rfl (Sub.cons rfl (Sub.nil _))))
     ·
      by_cases c43 : q31 = true
      ·
       have h44:=ite_true c43 h40
       refine DL.not (i:=36) rfl (Wn.yes c43 rfl rfl rfl rfl) rfl rfl ?_
       refine DL.not (i:=37) rfl (Wn.yes c43 rfl rfl rfl rfl) rfl rfl ?_
       refine DL.not (i:=38) rfl (Wn.yes c43 rfl rfl rfl rfl) rfl rfl ?_
       refine DL.not (i:=39) rfl (Wn.yes c43 rfl rfl rfl rfl) rfl rfl ?_
       refine DL.not (i:=40) rfl (Wn.yes c43 rfl rfl rfl rfl) rfl rfl ?_
       refine DL.not (i:=41) rfl (Wn.yes c43 rfl rfl rfl rfl) rfl rfl ?_
       refine DL.not (i:=42) rfl (Wn.yes c43 rfl rfl rfl rfl) rfl rfl ?_
       refine DL.pu 50 (.bool true) rfl (p_pick_t c43 rfl rfl rfl) ?_
       obtain rfl:=Option.some.inj h44
       exact DL.weak J42 (Sub.cons rfl (Sub.cons rfl (Sub.cons rfl (Sub.nil _))))
      ·
       replace c43:=Bool.eq_false_iff.mpr c43
       have h45:=ite_false c43 h40
       refine DL.pure (v:=ptr b1 5) rfl (Wn.no c43 rfl rfl rfl rfl) rfl rfl rfl (p_fieldAddr ty_f27_5 rfl rfl) ?_
       refine DL.quiet (v:=a0_5) rfl (Wn.no c43 rfl rfl rfl rfl) rfl rfl rfl (f_load (j:=1) ty_a24 rfl rfl rfl rfl) ?_
       refine DL.pure (v:=.int .i64 ((Der.arcs a0).length : Int)) rfl (Wn.no c43 rfl rfl rfl rfl) rfl rfl rfl (p_slLen ty_u24 (RowV.sl hr_a0_5) rfl rfl) ?_
       refine DL.pure (v:=ptr b2 5) rfl (Wn.no c43 rfl rfl rfl rfl) rfl rfl rfl (p_fieldAddr ty_f27_5 rfl rfl) ?_
       refine DL.quiet (v:=a1_5) rfl (Wn.no c43 rfl rfl rfl rfl) rfl rfl rfl (f_load (j:=0) ty_a24 rfl rfl rfl rfl) ?_
       refine DL.pure (v:=.int .i64 ((Der.arcs a1).length : Int)) rfl (Wn.no c43 rfl rfl rfl rfl) rfl rfl rfl (p_slLen ty_u24 (RowV.sl hr_a1_5) rfl rfl) ?_
       obtain ⟨t46,e47,h48⟩:=nm_some h45
       refine DL.pure (v:=.bool t46) rfl (Wn.no c43 rfl rfl rfl rfl) rfl rfl rfl (by rw [e47]; exact p_neq rfl rfl rfl) ?_
       refine DL.pu 50 (.bool t46) rfl (p_pick_f c43 rfl rfl rfl) ?_
       obtain rfl:=Option.some.inj h48
       exact DL.weak J42 (Sub.cons rfl (Sub.cons rfl (Sub.cons rfl (Sub.nil _))))
    ·
     by_cases c35 : q20 = true
     ·
      have h36:=ite_true c35 h32
      refine DL.not (i:=29) rfl (Wn.yes c35 rfl rfl rfl rfl) rfl rfl ?_
      refine DL.not (i:=30) rfl (Wn.yes c35 rfl rfl rfl rfl) rfl rfl ?_
      refine DL.not (i:=31) rfl (Wn.yes c35 rfl rfl rfl rfl) rfl rfl ?_
      refine DL.not (i:=32) rfl (Wn.yes c35 rfl rfl rfl rfl) rfl rfl ?_
      refine DL.not (i:=33) rfl (Wn.yes c35 rfl rfl rfl rfl) rfl rfl ?_
      refine DL.pu 41 (.bool true) rfl (p_pick_t c35 rfl rfl rfl) ?_
      obtain rfl:=Option.some.inj h36
      exact DL.weak J34 (Sub.cons rfl (Sub.cons rfl (Sub.cons rfl (Sub.nil _))))
     ·
      replace c35:=Bool.eq_false_iff.mpr c35
      have h37:=ite_false c35 h32
      refine DL.pure (v:=ptr b1 4) rfl (Wn.no c35 rfl rfl rfl rfl) rfl rfl rfl (p_fieldAddr ty_f27_4 rfl rfl) ?_
      refine DL.quiet (v:=str (Der.text a0)) rfl (Wn.no c35 rfl rfl rfl rfl) rfl rfl rfl (f_load (j:=1) ty_a9 rfl rfl rfl rfl) ?_
      refine DL.pure (v:=ptr b2 4) rfl (Wn.no c35 rfl rfl rfl rfl) rfl rfl rfl (p_fieldAddr ty_f27_4 rfl rfl) ?_
      refine DL.quiet (v:=str (Der.text a1)) rfl (Wn.no c35 rfl rfl rfl rfl) rfl rfl rfl (f_load (j:=0) ty_a9 rfl rfl rfl rfl) ?_
      refine DL.pure (v:=.bool (!((Der.text a0) == (Der.text a1)))) rfl (Wn.no c35 rfl rfl rfl rfl) rfl rfl rfl (p_strNe rfl rfl rfl) ?_
      refine DL.pu 41 (.bool (!((Der.text a0) == (Der.text a1)))) rfl (p_pick_f c35 rfl rfl rfl) ?_
      obtain rfl:=Option.some.inj h37
      exact DL.weak J34 (Sub.cons rfl (Sub.cons rfl (Sub.cons rfl (Sub.nil _))))
   ·
    by_cases c24 : q12 = true
    ·
     have h25:=ite_true c24 h21
     refine DL.not (i:=20) rfl (Wn.yes c24 rfl rfl rfl rfl) rfl rfl ?_
     refine DL.not (i:=21) rfl (Wn.yes c24 rfl rfl rfl rfl) rfl rfl ?_
     refine DL.not (i:=22) rfl (Wn.yes c24 rfl rfl rfl rfl) rfl rfl ?_
     refine DL.not (i:=23) rfl (Wn.yes c24 rfl rfl rfl rfl) rfl rfl ?_
     refine DL.not (i:=24) rfl (Wn.yes c24 rfl rfl rfl rfl) rfl rfl ?_
     refine DL.not (i:=25) rfl (Wn.yes c24 rfl rfl rfl rfl) rfl rfl ?_
     refine DL.not (i:=26) rfl (Wn.yes c24 rfl rfl rfl rfl) rfl rfl ?_
     refine DL.pu 34 (.bool true) rfl (p_pick_t c24 rfl rfl rfl) ?_
     obtain rfl:=Option.some.inj h25
     exact DL.weak J23 (Sub.cons rfl (Sub.cons rfl (Sub.cons rfl (Sub.nil _))))
    ·
     replace c24:=Bool.eq_false_iff.mpr c24
     have h26:=ite_false c24 h21
     refine DL.pure (v:=ptr b1 3) rfl (Wn.no c24 rfl rfl rfl rfl) rfl rfl rfl (p_fieldAddr ty_f27_3 rfl rfl) ?_
     refine DL.quiet (v:=a0_3) rfl (Wn.no c24 rfl rfl rfl rfl) rfl rfl rfl (f_load (j:=1) ty_a23 rfl rfl rfl rfl) ?_
     refine DL.quiet (v:=str (bytesL (Der.bytes a0))) rfl (Wn.no c24 rfl rfl rfl rfl) rfl rfl rfl (q_bytesStr ty_us23 ty_us5 ty_us9 (fun w hc => RowV.mono hr_a0_3 (hE.ext hc)) rfl rfl) ?_
     refine DL.pure (v:=ptr b2 3) rfl (Wn.no c24 rfl rfl rfl rfl) rfl rfl rfl (p_fieldAddr ty_f27_3 rfl rfl) ?_
     refine DL.quiet (v:=a1_3) rfl (Wn.no c24 rfl rfl rfl rfl) rfl rfl rfl (f_load (j:=0) ty_a23 rfl rfl rfl rfl) ?_
     refine DL.quiet (v:=str (bytesL (Der.bytes a1))) rfl (Wn.no c24 rfl rfl rfl rfl) rfl rfl rfl (q_bytesStr ty_us23 ty_us5 ty_us9 (fun w hc => RowV.mono hr_a1_3 (hE.ext hc)) rfl rfl) ?_
     obtain ⟨t27,e28,h29⟩:=nm_some h26
     refine DL.pure (v:=.bool t27) rfl (Wn.no c24 rfl rfl rfl rfl) rfl rfl rfl (by rw [e28]; exact p_strNe rfl rfl rfl) ?_
     refine DL.pu 34 (.bool t27) rfl (p_pick_f c24 rfl rfl rfl) ?_
     obtain rfl:=Option.some.inj h29
     exact DL.weak J23 (Sub.cons rfl (Sub.cons rfl (Sub.cons rfl (Sub.nil _))))
  ·
   by_cases c16 : q4 = true
   ·
    have h17:=ite_true c16 h13
    refine DL.not (i:=13) rfl (Wn.yes c16 rfl rfl rfl rfl) rfl rfl ?_
    refine DL.not (i:=14) rfl (Wn.yes c16 rfl rfl rfl rfl) rfl rfl ?_
    refine DL.not (i:=15) rfl (Wn.yes c16 rfl rfl rfl rfl) rfl rfl ?_
    refine DL.not (i:=16) rfl (Wn.yes c16 rfl rfl rfl rfl) rfl rfl ?_
    refine DL.not (i:=17) rfl (Wn.yes c16 rfl rfl rfl rfl) rfl rfl ?_
    refine DL.pu 25 (.bool true) rfl (p_pick_t c16 rfl rfl rfl) ?_
    obtain rfl:=Option.some.inj h17
    exact DL.weak J15 (Sub.cons rfl (Sub.cons rfl (Sub.cons rfl (Sub.nil _))))
   ·
    replace c16:=Bool.eq_false_iff.mpr c16
    have h18:=ite_false c16 h13
    refine DL.pure (v:=ptr b1 2) rfl (Wn.no c16 rfl rfl rfl rfl) rfl rfl rfl (p_fieldAddr ty_f27_2 rfl rfl) ?_
    refine DL.quiet (v:=.int .i64 (Der.num a0)) rfl (Wn.no c16 rfl rfl rfl rfl) rfl rfl rfl (f_load (j:=1) ty_a2 rfl rfl rfl rfl) ?_
    refine DL.pure (v:=ptr b2 2) rfl (Wn.no c16 rfl rfl rfl rfl) rfl rfl rfl (p_fieldAddr ty_f27_2 rfl rfl) ?_
    refine DL.quiet (v:=.int .i64 (Der.num a1)) rfl (Wn.no c16 rfl rfl rfl rfl) rfl rfl rfl (f_load (j:=0) ty_a2 rfl rfl rfl rfl) ?_
    refine DL.pure (v:=.bool ((Der.num a0) != (Der.num a1))) rfl (Wn.no c16 rfl rfl rfl rfl) rfl rfl rfl (p_neq rfl rfl rfl) ?_
    refine DL.pu 25 (.bool ((Der.num a0) != (Der.num a1))) rfl (p_pick_f c16 rfl rfl rfl) ?_
    obtain rfl:=Option.some.inj h18
    exact DL.weak J15 (Sub.cons rfl (Sub.cons rfl (Sub.cons rfl (Sub.nil _))))
 ·
  by_cases c8 : ((Der.kind a0) != (Der.kind a1)) = true
  ·
   have h9:=ite_true c8 h5
   refine DL.not (i:=6) rfl (Wn.yes c8 rfl rfl rfl rfl) rfl rfl ?_
   refine DL.not (i:=7) rfl (Wn.yes c8 rfl rfl rfl rfl) rfl rfl ?_
   refine DL.not (i:=8) rfl (Wn.yes c8 rfl rfl rfl rfl) rfl rfl ?_
   refine DL.not (i:=9) rfl (Wn.yes c8 rfl rfl rfl rfl) rfl rfl ?_
   refine DL.not (i:=10) rfl (Wn.yes c8 rfl rfl rfl rfl) rfl rfl ?_
   refine DL.pu 18 (.bool true) rfl (p_pick_t c8 rfl rfl rfl) ?_
   obtain rfl:=Option.some.inj h9
   exact DL.weak J7 (Sub.cons rfl (Sub.cons rfl (Sub.cons rfl (Sub.nil _))))
  ·
   replace c8:=Bool.eq_false_iff.mpr c8
   have h10:=ite_false c8 h5
   refine DL.pure (v:=ptr b1 1) rfl (Wn.no c8 rfl rfl rfl rfl) rfl rfl rfl (p_fieldAddr ty_f27_1 rfl rfl) ?_
   refine DL.quiet (v:=.bool (Der.flag a0)) rfl (Wn.no c8 rfl rfl rfl rfl) rfl rfl rfl (f_load (j:=1) ty_a4 rfl rfl rfl rfl) ?_
   refine DL.pure (v:=ptr b2 1) rfl (Wn.no c8 rfl rfl rfl rfl) rfl rfl rfl (p_fieldAddr ty_f27_1 rfl rfl) ?_
   refine DL.quiet (v:=.bool (Der.flag a1)) rfl (Wn.no c8 rfl rfl rfl rfl) rfl rfl rfl (f_load (j:=0) ty_a4 rfl rfl rfl rfl) ?_
   refine DL.pure (v:=.bool (!((Der.flag a0) == (Der.flag a1)))) rfl (Wn.no c8 rfl rfl rfl rfl) rfl rfl rfl (p_neb ty_u4 rfl rfl rfl) ?_
   refine DL.pu 18 (.bool (!((Der.flag a0) == (Der.flag a1)))) rfl (p_pick_f c8 rfl rfl rfl) ?_
   obtain rfl:=Option.some.inj h10
   exact DL.weak J7 (Sub.cons rfl (Sub.cons rfl (Sub.cons rfl (Sub.nil _))))
theorem ref13_Same.valF {r_ref13_Same : Der → Der → Option (Bool)} (hr_ref13_Same : ref13_Same.Rec r_ref13_Same) {a0 : Der} {a1 : Der} {a0_3 : Value} {a0_5 : Value} {a0_6 : Value} {a1_3 : Value} {a1_5 : Value} {a1_6 : Value} {r : Bool} (h : ref13_Same.F r_ref13_Same a0 a1 = some r) {M : Mem} (w : World) (hM : Ext M (heapOf w)) (hr_a0_3 : IntRow M .u8 a0_3 (Der.bytes a0)) (hr_a0_5 : IntRow M .u64 a0_5 (Der.arcs a0)) (hr_a0_6 : RowS ShDer M a0_6 (Tree.kids a0)) (hr_a1_3 : IntRow M .u8 a1_3 (Der.bytes a1)) (hr_a1_5 : IntRow M .u64 a1_5 (Der.arcs a1)) (hr_a1_6 : RowS ShDer M a1_6 (Tree.kids a1)) : Calls Tryd.prog 18 #[.agg (Der.ce a0 a0_3 a0_5 a0_6),.agg (Der.ce a1 a1_3 a1_5 a1_6)] w fun e w' => e = .returned (.bool r) ∧ Below w.heap.size w w' :=
 calls_value (ref13_Same.okF hr_ref13_Same h w hM hr_a0_3 hr_a0_5 hr_a0_6 hr_a1_3 hr_a1_5 hr_a1_6)
def ref13_Same.f : Nat → Der → Der → Option (Bool)
 | 0,_,_ => none
 | k + 1,a0,a1 => ref13_Same.F (ref13_Same.f k) a0 a1
theorem ref13_Same.rec : ∀ k,ref13_Same.Rec (ref13_Same.f k):=by
 intro k
 induction k with
 | zero => intro _ _ _ _ _ _ _ _ _ h; simp [ref13_Same.f] at h
 | succ k ih => intro a0 a1 a0_3 a0_5 a0_6 a1_3 a1_5 a1_6 r h M w hM hr_a0_3 hr_a0_5 hr_a0_6 hr_a1_3 hr_a1_5 hr_a1_6; exact ref13_Same.valF ih h w hM hr_a0_3 hr_a0_5 hr_a0_6 hr_a1_3 hr_a1_5 hr_a1_6
theorem ref13_Same.ok {k : Nat} {a0 : Der} {a1 : Der} {a0_3 : Value} {a0_5 : Value} {a0_6 : Value} {a1_3 : Value} {a1_5 : Value} {a1_6 : Value} {r : Bool} (h : ref13_Same.f k a0 a1 = some r) {M : Mem} (w : World) (hM : Ext M (heapOf w)) (hr_a0_3 : IntRow M .u8 a0_3 (Der.bytes a0)) (hr_a0_5 : IntRow M .u64 a0_5 (Der.arcs a0)) (hr_a0_6 : RowS ShDer M a0_6 (Tree.kids a0)) (hr_a1_3 : IntRow M .u8 a1_3 (Der.bytes a1)) (hr_a1_5 : IntRow M .u64 a1_5 (Der.arcs a1)) (hr_a1_6 : RowS ShDer M a1_6 (Tree.kids a1)) : Calls Tryd.prog 18 #[.agg (Der.ce a0 a0_3 a0_5 a0_6),.agg (Der.ce a1 a1_3 a1_5 a1_6)] w (Post (fun u => u = .bool r) w) :=
 (ref13_Same.rec k h w hM hr_a0_3 hr_a0_5 hr_a0_6 hr_a1_3 hr_a1_5 hr_a1_6).mono fun e w' ⟨he,hb⟩ => ⟨_,he,rfl,hb⟩
theorem ref13_Same.val {k : Nat} {a0 : Der} {a1 : Der} {a0_3 : Value} {a0_5 : Value} {a0_6 : Value} {a1_3 : Value} {a1_5 : Value} {a1_6 : Value} {r : Bool} (h : ref13_Same.f k a0 a1 = some r) {M : Mem} (w : World) (hM : Ext M (heapOf w)) (hr_a0_3 : IntRow M .u8 a0_3 (Der.bytes a0)) (hr_a0_5 : IntRow M .u64 a0_5 (Der.arcs a0)) (hr_a0_6 : RowS ShDer M a0_6 (Tree.kids a0)) (hr_a1_3 : IntRow M .u8 a1_3 (Der.bytes a1)) (hr_a1_5 : IntRow M .u64 a1_5 (Der.arcs a1)) (hr_a1_6 : RowS ShDer M a1_6 (Tree.kids a1)) : Calls Tryd.prog 18 #[.agg (Der.ce a0 a0_3 a0_5 a0_6),.agg (Der.ce a1 a1_3 a1_5 a1_6)] w fun e w' => e = .returned (.bool r) ∧ Below w.heap.size w w' :=
 ref13_Same.rec k h w hM hr_a0_3 hr_a0_5 hr_a0_6 hr_a1_3 hr_a1_5 hr_a1_6

@[reducible] def der_Same.Rec (r_ : Der → Der → Option (Bool)) : Prop:=∀ {a0 : Der} {a1 : Der} {a0_3 : Value} {a0_5 : Value} {a0_6 : Value} {a1_3 : Value} {a1_5 : Value} {a1_6 : Value} {r : Bool},r_ a0 a1 = some r → ∀ {M : Mem} (w : World) (hM : Ext M (heapOf w)) (hr_a0_3 : IntRow M .u8 a0_3 (Der.bytes a0)) (hr_a0_5 : IntRow M .u64 a0_5 (Der.arcs a0)) (hr_a0_6 : RowS ShDer M a0_6 (Tree.kids a0)) (hr_a1_3 : IntRow M .u8 a1_3 (Der.bytes a1)) (hr_a1_5 : IntRow M .u64 a1_5 (Der.arcs a1)) (hr_a1_6 : RowS ShDer M a1_6 (Tree.kids a1)),Calls Tryd.prog 17 #[.agg (Der.ce a0 a0_3 a0_5 a0_6),.agg (Der.ce a1 a1_3 a1_5 a1_6)] w (fun e w' => e = .returned (.bool r) ∧ Below w.heap.size w w')

/-! ### slices.EqualFunc[[]escutcheon/api.Der,[]escutcheon/api.Der,escutcheon/api.Der,escutcheon/api.Der]: function 37 -/
noncomputable def B37 : Code:=bodyOf Tryd.f37
def equalFunc.L0 (r_der_Same : Der → Der → Option (Bool)) (a0 : List Der) (a1 : List Der) : Nat → Int → Option ((Unit) ⊕ (Bool))
 | 0,_ => none
 | k + 1,x17_4 => if (decide (x17_4 < (a0.length : Int))) = true then (req (0 ≤ x17_4) (req (x17_4 < (a0.length : Int)) (nm (a0.getD x17_4.toNat Der.dflt) fun t87 => req (x17_4 < (a1.length : Int)) (nm (a1.getD x17_4.toNat Der.dflt) fun t94 => (r_der_Same t87 t94).bind fun t98 => if (!t98) = true then (some (.inr false)) else (equalFunc.L0 r_der_Same a0 a1 k (IntKind.i64.wrap (x17_4 + 1))))))) else (some (.inl ()))
set_option maxRecDepth 20000 in
theorem equalFunc.L0_ok {r_der_Same : Der → Der → Option (Bool)} (hr_der_Same : der_Same.Rec r_der_Same) (a0 : List Der) (a0_v : Value) (a1 : List Der) (a1_v : Value) {r : Bool}  {w0 : World} {M0 M I : Mem} {K : List Item} (hE : Env w0 M0 M I) (hr_a0 : RowS ShDer M a0_v a0) (hr_a1 : RowS ShDer M a1_v a1) :
  ∀ (k : Nat) (x17_4 : Int) (q : (Unit) ⊕ (Bool)) (h : equalFunc.L0 r_der_Same a0 a1 k x17_4 = some q) (hk : match (generalizing:=false) q with | .inl () => (TT Tryd.prog 37 (Post (fun u => u = .bool r) w0) 32 w0 I K [] []) | .inr rq => rq = r),
   TT Tryd.prog 37 (Post (fun u => u = .bool r) w0) 32 w0 I (.code (sub [1,1,0,1,0,0] B37) :: .inLoop (sub [1,1,0,1,0,0] B37) :: .inBlock 0 :: K) [(1,a1_v),(2,.func (.func 17) #[] #[]),(15,a0_v),(16,.int .i64 (a0.length : Int)),(17,.int .i64 x17_4)] []:=by
 intro k
 induction k with
 | zero => intro x17_4 q h; simp [equalFunc.L0] at h
 | succ k ih =>
  intro x17_4 q h hk
  unfold equalFunc.L0 at h
  refine TT.seq (x:=sub [1,1,0,1,0,0,0] B37) (y:=sub [1,1,0,1,0,0,1] B37) ?_
  refine TT.rg [0] [kp] rfl rfl ?_
  refine DL.pu 18 (.bool (decide (x17_4 < (a0.length : Int)))) rfl (p_lss rfl rfl rfl) ?_
  refine DL.nil ?_
  refine TT.seq (x:=sub [1,1,0,1,0,0,1,0] B37) (y:=sub [1,1,0,1,0,0,1,1] B37) ?_
  by_cases c80 : (decide (x17_4 < (a0.length : Int))) = true
  ·
   have h81:=ite_true c80 h
   refine TT.cond_true (x:=sub [1,1,0,1,0,0,1,0,0] B37) (y:=sub [1,1,0,1,0,0,1,0,1] B37) rfl c80 ?_
   refine TT.skip ?_
   refine TT.seq (x:=sub [1,1,0,1,0,0,1,1,0] B37) (y:=sub [1,1,0,1,0,0,1,1,1] B37) ?_
   refine TT.block (c:=sub [1,1,0,1,0,0,1,1,0,0] B37) ?_
   refine TT.seq (x:=sub [1,1,0,1,0,0,1,1,0,0,0] B37) (y:=sub [1,1,0,1,0,0,1,1,0,0,1] B37) ?_
   refine TT.rg [0,1,2,3,4,5] [kp,kp,kp,(.alloc,none),kp,(.store,none)] rfl rfl ?_
   refine DL.mv 19 (.int .i64 x17_4) rfl rfl rfl ?_
   obtain ⟨g82,h83⟩:=req_some h81
   obtain ⟨g84,h85⟩:=req_some h83
   refine DL.pu 20 (elp a0_v (x17_4.toNat * 7)) rfl (p_slIx ty_u25 ty_s27 (RowS.some hr_a0 g82 g84) g82 g84 rfl rfl rfl) ?_
   obtain ⟨t87,e88,h89⟩:=nm_some h85
   obtain ⟨cs86,hc86,hl86⟩:=id (hr_a0)
   have q86:=hl86 _ _ (getD_some Der.dflt (lt_len g82 g84)); rw [← e88] at q86
   obtain ⟨t87_3,t87_5,t87_6,hq86,hr_t87_3,hr_t87_5,hr_t87_6⟩:=Der.op q86
   refine DL.imm (v:=.agg (Der.ce t87 t87_3 t87_5 t87_6)) rfl (Wn.none rfl) rfl rfl rfl (i_loadElA (RowV.mono hc86 hE.mi) hq86 (lt_len g82 g84) ty_a27 ty_s27 rfl rfl) ?_
   refine DL.new (ob:=.cells (#[.int .i64 0,.bool false,.int .i64 0,(.slice none 0 0),str ([] : List UInt8),(.slice none 0 0),(.slice none 0 0)]) 27) (mk:=fun b => ptr b 0) (i:=3) rfl (Wn.none rfl) rfl rfl rfl (f_alloc ty_z27 rfl) ?_
   intro b90 hb90
   refine DL.pu 7 (.int .i64 x17_4) rfl (p_assign rfl rfl) ?_
   refine DL.put (H':=[(some b90,.cells ((Der.ce t87 t87_3 t87_5 t87_6)) 27 (0,0))]) (i:=5) rfl (Wn.none rfl) rfl rfl (f_storeA (j:=0) ty_s27 rfl rfl rfl (one_cons trivial (one_cons trivial (one_cons trivial (one_cons (sl_one (RowV.sl hr_t87_3)) (one_cons trivial (one_cons (sl_one (RowV.sl hr_t87_5)) (one_cons (sl_one (RowS.sl hr_t87_6)) one_nil))))))) rfl rfl rfl) (keep_none rfl) ?_
   refine DL.nil ?_
   refine TT.seq (x:=sub [1,1,0,1,0,0,1,1,0,0,1,0] B37) (y:=sub [1,1,0,1,0,0,1,1,0,0,1,1] B37) ?_
   refine TT.rg [0,1,2,3,4,5] [kp,kp,kp,kp,(.alloc,none),(.store,none)] rfl rfl ?_
   refine DL.mv 22 (a1_v) rfl rfl rfl ?_
   refine DL.mv 23 (.int .i64 x17_4) rfl rfl rfl ?_
   obtain ⟨g91,h92⟩:=req_some h89
   refine DL.pu 24 (elp a1_v (x17_4.toNat * 7)) rfl (p_slIx ty_u25 ty_s27 (RowS.some hr_a1 g82 g91) g82 g91 rfl rfl rfl) ?_
   obtain ⟨t94,e95,h96⟩:=nm_some h92
   obtain ⟨cs93,hc93,hl93⟩:=id (hr_a1)
   have q93:=hl93 _ _ (getD_some Der.dflt (lt_len g82 g91)); rw [← e95] at q93
   obtain ⟨t94_3,t94_5,t94_6,hq93,hr_t94_3,hr_t94_5,hr_t94_6⟩:=Der.op q93
   refine DL.imm (v:=.agg (Der.ce t94 t94_3 t94_5 t94_6)) rfl (Wn.none rfl) rfl rfl rfl (i_loadElA (RowV.mono hc93 hE.mi) hq93 (lt_len g82 g91) ty_a27 ty_s27 rfl rfl) ?_
   refine DL.new (ob:=.cells (#[.int .i64 0,.bool false,.int .i64 0,(.slice none 0 0),str ([] : List UInt8),(.slice none 0 0),(.slice none 0 0)]) 27) (mk:=fun b => ptr b 0) (i:=4) rfl (Wn.none rfl) rfl rfl rfl (f_alloc ty_z27 rfl) ?_
   intro b97 hb97
   refine DL.put (H':=[(some b97,.cells ((Der.ce t94 t94_3 t94_5 t94_6)) 27 (0,0)),(some b90,.cells ((Der.ce t87 t87_3 t87_5 t87_6)) 27 (0,0))]) (i:=5) rfl (Wn.none rfl) rfl rfl (f_storeA (j:=0) ty_s27 rfl rfl rfl (one_cons trivial (one_cons trivial (one_cons trivial (one_cons (sl_one (RowV.sl hr_t94_3)) (one_cons trivial (one_cons (sl_one (RowV.sl hr_t94_5)) (one_cons (sl_one (RowS.sl hr_t94_6)) one_nil))))))) rfl rfl rfl) (keep_none rfl) ?_
   refine DL.nil ?_
   refine TT.seq (x:=sub [1,1,0,1,0,0,1,1,0,0,1,1,0] B37) (y:=sub [1,1,0,1,0,0,1,1,0,0,1,1,1] B37) ?_
   refine TT.rg [0,1,2,3,4] [kp,kq,kq,kq,kp] rfl rfl ?_
   refine DL.mv 26 (.func (.func 17) #[] #[]) rfl rfl rfl ?_
   refine DL.qu 27 (.agg (Der.ce t87 t87_3 t87_5 t87_6)) rfl (f_loadA (j:=1) ty_a27 ty_s27 rfl rfl rfl rfl) ?_
   refine DL.qu 28 (.agg (Der.ce t94 t94_3 t94_5 t94_6)) rfl (f_loadA (j:=0) ty_a27 ty_s27 rfl rfl rfl rfl) ?_
   obtain ⟨t98,h99,h100⟩:=bind_some h96
   refine DL.qu 29 (.bool t98) rfl (f_callV (by simp) rfl rfl rfl (args_val (vs:=[.agg (Der.ce t87 t87_3 t87_5 t87_6),.agg (Der.ce t94 t94_3 t94_5 t94_6)]) rfl) (fun w => enter17 _ w) (fun w hc => hr_der_Same h99 (M:=M) w (hE.ext hc) hr_t87_3 hr_t87_5 hr_t87_6 hr_t94_3 hr_t94_5 hr_t94_6)) ?_
   refine DL.pu 30 (.bool (!t98)) rfl (p_not rfl rfl) ?_
   refine DL.nil ?_
   by_cases c101 : (!t98) = true
   ·
    have h102:=ite_true c101 h100
    refine TT.cond_true (x:=sub [1,1,0,1,0,0,1,1,0,0,1,1,1,0] B37) (y:=sub [1,1,0,1,0,0,1,1,0,0,1,1,1,1] B37) rfl c101 ?_
    refine TT.seq (x:=sub [1,1,0,1,0,0,1,1,0,0,1,1,1,0,0] B37) (y:=sub [1,1,0,1,0,0,1,1,0,0,1,1,1,0,1] B37) ?_
    refine TT.rg [0] [kp] rfl rfl ?_
    refine DL.pu 6 (.bool false) rfl (p_assign rfl rfl) ?_
    refine DL.nil ?_
    obtain rfl:=Option.some.inj h102
    have k103 : false = r:=hk
    subst k103
    exact retnE (rs:=[.tmp 6]) (vs:=[.bool false]) hE.base Tryd.func37 rfl rfl rfl (res_cons (ResV.tmp rfl) res_nil) rfl
   ·
    replace c101:=Bool.eq_false_iff.mpr c101
    have h104:=ite_false c101 h100
    refine TT.cond_false (x:=sub [1,1,0,1,0,0,1,1,0,0,1,1,1,0] B37) (y:=sub [1,1,0,1,0,0,1,1,0,0,1,1,1,1] B37) rfl c101 ?_
    refine TT.skip ?_
    refine TT.inBlock ?_
    refine TT.rg [0,1] [kp,kp] rfl rfl ?_
    refine DL.pu 31 (.int .i64 (IntKind.i64.wrap (x17_4 + 1))) rfl (p_add rfl rfl rfl) ?_
    refine DL.mv 17 (.int .i64 (IntKind.i64.wrap (x17_4 + 1))) rfl rfl rfl ?_
    refine DL.nil ?_
    refine TT.inLoop ?_
    exact TT.pick [] (by decide) (TT.weak (ih (IntKind.i64.wrap (x17_4 + 1)) _ h104 hk) (Sub.cons rfl (Sub.cons rfl (Sub.cons rfl (Sub.cons rfl (Sub.cons rfl (Sub.nil _)))))))
  ·
   replace c80:=Bool.eq_false_iff.mpr c80
   have h105:=ite_false c80 h
   refine TT.cond_false (x:=sub [1,1,0,1,0,0,1,0,0] B37) (y:=sub [1,1,0,1,0,0,1,0,1] B37) rfl c80 ?_
   refine TT.exit rfl ?_
   obtain rfl:=Option.some.inj h105
   exact TT.weak (hk) (Sub.nil _)

def equalFunc.f (r_der_Same : Der → Der → Option (Bool)) (a0 : List Der) (a1 : List Der) : Option (Bool):=if ((a0.length : Int) != (a1.length : Int)) = true then (some false) else (onw (equalFunc.L0 r_der_Same a0 a1 ((a0.length : Int).toNat + 1) 0) (fun _ => some true) (fun r => some r))
set_option maxRecDepth 20000 in
theorem equalFunc.ok {r_der_Same : Der → Der → Option (Bool)} (hr_der_Same : der_Same.Rec r_der_Same) {a0 : List Der} {a1 : List Der} {a0_v : Value} {a1_v : Value} {r : Bool} (h : equalFunc.f r_der_Same a0 a1 = some r) {M : Mem} (w : World) (hM : Ext M (heapOf w)) (hr_a0 : RowS ShDer M a0_v a0) (hr_a1 : RowS ShDer M a1_v a1) : Calls Tryd.prog 37 #[a0_v,a1_v,.func (.func 17) #[] #[]] w (Post (fun u => u = .bool r) w):=by
 unfold equalFunc.f at h
 have hE:=Env.start hM
 refine calls_of_TT (N:=32) (S:=[(0,a0_v),(1,a1_v),(2,.func (.func 17) #[] #[])]) (c:=B37) Tryd.func37 rfl rfl rfl (by simp) ?_
 show TT _ _ _ _ _ _ [.code (sub [] B37)] _ _
 refine TT.seq (x:=sub [0] B37) (y:=sub [1] B37) ?_
 refine TT.rg [0] [kp] rfl rfl ?_
 refine DL.pu 6 (.bool false) rfl (p_assign rfl rfl) ?_
 refine DL.nil ?_
 refine TT.seq (x:=sub [1,0] B37) (y:=sub [1,1] B37) ?_
 refine TT.seq (x:=sub [1,0,0] B37) (y:=sub [1,0,1] B37) ?_
 refine TT.rg [0,1,2,3,4] [kp,kp,kp,kp,kp] rfl rfl ?_
 refine DL.mv 10 (a0_v) rfl rfl rfl ?_
 refine DL.pu 11 (.int .i64 (a0.length : Int)) rfl (p_slLen ty_u25 (RowS.sl hr_a0) rfl rfl) ?_
 refine DL.mv 12 (a1_v) rfl rfl rfl ?_
 refine DL.pu 13 (.int .i64 (a1.length : Int)) rfl (p_slLen ty_u25 (RowS.sl hr_a1) rfl rfl) ?_
 refine DL.pu 14 (.bool ((a0.length : Int) != (a1.length : Int))) rfl (p_neq rfl rfl rfl) ?_
 refine DL.nil ?_
 by_cases c1 : ((a0.length : Int) != (a1.length : Int)) = true
 ·
  have h2:=ite_true c1 h
  refine TT.cond_true (x:=sub [1,0,1,0] B37) (y:=sub [1,0,1,1] B37) rfl c1 ?_
  refine TT.seq (x:=sub [1,0,1,0,0] B37) (y:=sub [1,0,1,0,1] B37) ?_
  refine TT.rg [0] [kp] rfl rfl ?_
  refine DL.pu 6 (.bool false) rfl (p_assign rfl rfl) ?_
  refine DL.nil ?_
  obtain rfl:=Option.some.inj h2
  exact retnE (rs:=[.tmp 6]) (vs:=[.bool false]) hE.base Tryd.func37 rfl rfl rfl (res_cons (ResV.tmp rfl) res_nil) rfl
 ·
  replace c1:=Bool.eq_false_iff.mpr c1
  have h3:=ite_false c1 h
  refine TT.cond_false (x:=sub [1,0,1,0] B37) (y:=sub [1,0,1,1] B37) rfl c1 ?_
  refine TT.skip ?_
  refine TT.seq (x:=sub [1,1,0] B37) (y:=sub [1,1,1] B37) ?_
  refine TT.seq (x:=sub [1,1,0,0] B37) (y:=sub [1,1,0,1] B37) ?_
  refine TT.rg [0,1,2] [kp,kp,kp] rfl rfl ?_
  refine DL.mv 15 (a0_v) rfl rfl rfl ?_
  refine DL.pu 16 (.int .i64 (a0.length : Int)) rfl (p_slLen ty_u25 (RowS.sl hr_a0) rfl rfl) ?_
  refine DL.mv 17 (.int .i64 0) rfl rfl rfl ?_
  refine DL.nil ?_
  refine TT.block (c:=sub [1,1,0,1,0] B37) ?_
  refine TT.loop (c:=sub [1,1,0,1,0,0] B37) ?_
  rcases onw_some h3 with ⟨_,h106,h107⟩ | ⟨r109,h106,h107⟩
  ·
   refine TT.weak (equalFunc.L0_ok hr_der_Same a0 a0_v a1 a1_v hE hr_a0 hr_a1 ((a0.length : Int).toNat + 1) 0 (.inl ()) h106 (?_)) (Sub.cons rfl (Sub.cons rfl (Sub.cons rfl (Sub.cons rfl (Sub.cons rfl (Sub.nil _))))))
   show TT _ _ _ _ _ _ _ _ _
   refine TT.seq (x:=sub [1,1,1,0] B37) (y:=sub [1,1,1,1] B37) ?_
   refine TT.rg [0] [kp] rfl rfl ?_
   refine DL.pu 6 (.bool true) rfl (p_assign rfl rfl) ?_
   refine DL.nil ?_
   obtain rfl:=Option.some.inj h107
   exact retnE (rs:=[.tmp 6]) (vs:=[.bool true]) hE.base Tryd.func37 rfl rfl rfl (res_cons (ResV.tmp rfl) res_nil) rfl
  ·
   obtain rfl:=Option.some.inj h107
   exact TT.weak (equalFunc.L0_ok hr_der_Same a0 a0_v a1 a1_v hE hr_a0 hr_a1 ((a0.length : Int).toNat + 1) 0 (.inr r109) h106 rfl) (Sub.cons rfl (Sub.cons rfl (Sub.cons rfl (Sub.cons rfl (Sub.cons rfl (Sub.nil _))))))
theorem equalFunc.val {r_der_Same : Der → Der → Option (Bool)} (hr_der_Same : der_Same.Rec r_der_Same) {a0 : List Der} {a1 : List Der} {a0_v : Value} {a1_v : Value} {r : Bool} (h : equalFunc.f r_der_Same a0 a1 = some r) {M : Mem} (w : World) (hM : Ext M (heapOf w)) (hr_a0 : RowS ShDer M a0_v a0) (hr_a1 : RowS ShDer M a1_v a1) : Calls Tryd.prog 37 #[a0_v,a1_v,.func (.func 17) #[] #[]] w fun e w' => e = .returned (.bool r) ∧ Below w.heap.size w w' :=
 calls_value (equalFunc.ok hr_der_Same h w hM hr_a0 hr_a1)

/-! ### escutcheon/der.Same: function 17 -/
noncomputable def B17 : Code:=bodyOf Tryd.f17
def der_Same.F (r_der_Same : Der → Der → Option (Bool)) (a0 : Der) (a1 : Der) : Option (Bool):=(if ((Der.kind a0) == (Der.kind a1)) = true then (some ((Der.flag a0) == (Der.flag a1))) else (some false)).bind fun q4 => (if q4 = true then (some ((Der.num a0) == (Der.num a1))) else (some false)).bind fun q12 => (if q12 = true then ((slices_Equal_35.f (Der.bytes a0) (Der.bytes a1)).bind fun t26 => some t26) else (some false)).bind fun q20 => (if q20 = true then (some ((Der.text a0) == (Der.text a1))) else (some false)).bind fun q31 => (if q31 = true then ((slices_Equal_36.f (Der.arcs a0) (Der.arcs a1)).bind fun t45 => some t45) else (some false)).bind fun q39 => (if q39 = true then ((equalFunc.f r_der_Same (Tree.kids a0) (Tree.kids a1)).bind fun t56 => some t56) else (some false)).bind fun q50 => some q50
set_option maxRecDepth 20000 in
theorem der_Same.okF {r_der_Same : Der → Der → Option (Bool)} (hr_der_Same : der_Same.Rec r_der_Same) {a0 : Der} {a1 : Der} {a0_3 : Value} {a0_5 : Value} {a0_6 : Value} {a1_3 : Value} {a1_5 : Value} {a1_6 : Value} {r : Bool} (h : der_Same.F r_der_Same a0 a1 = some r) {M : Mem} (w : World) (hM : Ext M (heapOf w)) (hr_a0_3 : IntRow M .u8 a0_3 (Der.bytes a0)) (hr_a0_5 : IntRow M .u64 a0_5 (Der.arcs a0)) (hr_a0_6 : RowS ShDer M a0_6 (Tree.kids a0)) (hr_a1_3 : IntRow M .u8 a1_3 (Der.bytes a1)) (hr_a1_5 : IntRow M .u64 a1_5 (Der.arcs a1)) (hr_a1_6 : RowS ShDer M a1_6 (Tree.kids a1)) : Calls Tryd.prog 17 #[.agg (Der.ce a0 a0_3 a0_5 a0_6),.agg (Der.ce a1 a1_3 a1_5 a1_6)] w (Post (fun u => u = .bool r) w):=by
 unfold der_Same.F at h
 have hE:=Env.start hM
 refine calls_of_TT (N:=52) (S:=[(0,.agg (Der.ce a0 a0_3 a0_5 a0_6)),(1,.agg (Der.ce a1 a1_3 a1_5 a1_6))]) (c:=B17) Tryd.func17 rfl rfl rfl (by simp) ?_
 show TT _ _ _ _ _ _ [.code (sub [] B17)] _ _
 refine TT.seq (x:=sub [0] B17) (y:=sub [1] B17) ?_
 refine TT.rg [0,1,2] [(.alloc,none),(.alloc,none),kp] rfl rfl ?_
 refine DL.new (ob:=.cells ((Der.ce a0 a0_3 a0_5 a0_6)) 27) (mk:=fun b => ptr b 0) (i:=0) rfl (Wn.none rfl) rfl rfl rfl (f_box (v:=.agg (Der.ce a0 a0_3 a0_5 a0_6)) rfl rfl) ?_
 intro b1 hb1
 refine DL.new (ob:=.cells ((Der.ce a1 a1_3 a1_5 a1_6)) 27) (mk:=fun b => ptr b 0) (i:=1) rfl (Wn.none rfl) rfl rfl rfl (f_box (v:=.agg (Der.ce a1 a1_3 a1_5 a1_6)) rfl rfl) ?_
 intro b2 hb2
 refine DL.pu 4 (.bool false) rfl (p_assign rfl rfl) ?_
 refine DL.nil ?_
 refine TT.seq (x:=sub [1,0] B17) (y:=sub [1,1] B17) ?_
 refine TT.rg [0,1,2,3,4,5,6,7,8,9,10,11,12,13,14,15,16,17,18,19,20,21,22,23,24,25,26,27,28,29,30,31,32,33,34,35,36,37,38,39,40,41,42,43,44,45,46,47] [kp,kq,kp,kq,kp,kp,kp,kq,kp,kq,kp,kp,kp,kp,kq,kp,kq,kp,kp,kp,kp,kq,kp,kq,kq,kp,kp,kp,kq,kp,kq,kp,kp,kp,kp,kq,kp,kq,kq,kp,kp,kp,kq,kp,kq,kq,kp,kp] rfl rfl ?_
 refine DL.pu 5 (ptr b1 0) rfl (p_fieldAddr ty_f27_0 rfl rfl) ?_
 refine DL.qu 6 (.int .i64 (Der.kind a0)) rfl (f_load (j:=1) ty_a22 rfl rfl rfl rfl) ?_
 refine DL.pu 7 (ptr b2 0) rfl (p_fieldAddr ty_f27_0 rfl rfl) ?_
 refine DL.qu 8 (.int .i64 (Der.kind a1)) rfl (f_load (j:=0) ty_a22 rfl rfl rfl rfl) ?_
 refine DL.pu 9 (.bool ((Der.kind a0) == (Der.kind a1))) rfl (p_eql rfl rfl rfl) ?_
 refine DL.mv 10 (.bool ((Der.kind a0) == (Der.kind a1))) rfl rfl rfl ?_
 obtain ⟨q4,h5,h6⟩:=bind_some h
 refine DL.cut [(2,ptr b1 0),(3,ptr b2 0),(16,.bool q4)] [12,13,14,15,16,17,18,19,20,21,22,23,24,25,26,27,28,29,30,31,32,33,34,35,36,37,38,39,40,41,42,43,44,45,46,47] ?_ (fun J7 => ?_)
 ·
  refine DL.mv 17 (.bool q4) rfl rfl rfl ?_
  obtain ⟨q12,h13,h14⟩:=bind_some h6
  refine DL.cut [(2,ptr b1 0),(3,ptr b2 0),(23,.bool q12)] [19,20,21,22,23,24,25,26,27,28,29,30,31,32,33,34,35,36,37,38,39,40,41,42,43,44,45,46,47] ?_ (fun J15 => ?_)
  ·
   refine DL.mv 24 (.bool q12) rfl rfl rfl ?_
   obtain ⟨q20,h21,h22⟩:=bind_some h14
   refine DL.cut [(2,ptr b1 0),(3,ptr b2 0),(30,.bool q20)] [26,27,28,29,30,31,32,33,34,35,36,37,38,39,40,41,42,43,44,45,46,47] ?_ (fun J23 => ?_)
   ·
    refine DL.mv 31 (.bool q20) rfl rfl rfl ?_
    obtain ⟨q31,h32,h33⟩:=bind_some h22
    refine DL.cut [(2,ptr b1 0),(3,ptr b2 0),(37,.bool q31)] [33,34,35,36,37,38,39,40,41,42,43,44,45,46,47] ?_ (fun J34 => ?_)
    ·
     refine DL.mv 38 (.bool q31) rfl rfl rfl ?_
     obtain ⟨q39,h40,h41⟩:=bind_some h33
     refine DL.cut [(2,ptr b1 0),(3,ptr b2 0),(44,.bool q39)] [40,41,42,43,44,45,46,47] ?_ (fun J42 => ?_)
     ·
      refine DL.mv 45 (.bool q39) rfl rfl rfl ?_
      obtain ⟨q50,h51,h52⟩:=bind_some h41
      refine DL.cut [(51,.bool q50)] [47] ?_ (fun J53 => ?_)
      ·
       refine DL.pu 4 (.bool q50) rfl (p_assign rfl rfl) ?_
       refine DL.nil ?_
       obtain rfl:=Option.some.inj h52
       exact retnE (rs:=[.tmp 4]) (vs:=[.bool q50]) hE.base Tryd.func17 rfl rfl rfl (res_cons (ResV.tmp rfl) res_nil) rfl
      ·
       by_cases c54 : q39 = true
       ·
        have h55:=ite_true c54 h51
        refine DL.pure (v:=ptr b1 6) rfl (Wn.yes c54 rfl rfl rfl rfl) rfl rfl rfl (p_fieldAddr ty_f27_6 rfl rfl) ?_
        refine DL.quiet (v:=a0_6) rfl (Wn.yes c54 rfl rfl rfl rfl) rfl rfl rfl (f_load (j:=1) ty_a25 rfl rfl rfl rfl) ?_
        refine DL.pure (v:=ptr b2 6) rfl (Wn.yes c54 rfl rfl rfl rfl) rfl rfl rfl (p_fieldAddr ty_f27_6 rfl rfl) ?_
        refine DL.quiet (v:=a1_6) rfl (Wn.yes c54 rfl rfl rfl rfl) rfl rfl rfl (f_load (j:=0) ty_a25 rfl rfl rfl rfl) ?_
        obtain ⟨t56,h57,h58⟩:=bind_some h55
        refine DL.quiet (v:=.bool t56) rfl (Wn.yes c54 rfl rfl rfl rfl) rfl rfl rfl (f_callR rfl rfl (args_val (vs:=[a0_6,a1_6,.func (.func 17) #[] #[]]) rfl) (fun w => enter37 _ w) (fun w hc => equalFunc.val hr_der_Same h57 (M:=M) w (hE.ext hc) hr_a0_6 hr_a1_6)) ?_
        refine DL.pu 51 (.bool t56) rfl (p_pick_t c54 rfl rfl rfl) ?_
        obtain rfl:=Option.some.inj h58
        exact DL.weak J53 (Sub.cons rfl (Sub.nil _))
       ·
        replace c54:=Bool.eq_false_iff.mpr c54
        have h59:=ite_false c54 h51
        refine DL.not (i:=41) rfl (Wn.no c54 rfl rfl rfl rfl) rfl rfl ?_
        refine DL.not (i:=42) rfl (Wn.no c54 rfl rfl rfl rfl) rfl rfl ?_
        refine DL.not (i:=43) rfl (Wn.no c54 rfl rfl rfl rfl) rfl rfl ?_
        refine DL.not (i:=44) rfl (Wn.no c54 rfl rfl rfl rfl) rfl rfl ?_
        refine DL.not (i:=45) rfl (Wn.no c54 rfl rfl rfl rfl) rfl rfl ?_
        refine DL.pu 51 (.bool false) rfl (p_pick_f c54 rfl rfl rfl) ?_
        obtain rfl:=Option.some.inj h59
        exact DL.weak J53 (Sub.cons rfl (Sub.nil _))
     ·
      by_cases c43 : q31 = true
      ·
       have h44:=ite_true c43 h40
       refine DL.pure (v:=ptr b1 5) rfl (Wn.yes c43 rfl rfl rfl rfl) rfl rfl rfl (p_fieldAddr ty_f27_5 rfl rfl) ?_
       refine DL.quiet (v:=a0_5) rfl (Wn.yes c43 rfl rfl rfl rfl) rfl rfl rfl (f_load (j:=1) ty_a24 rfl rfl rfl rfl) ?_
       refine DL.pure (v:=ptr b2 5) rfl (Wn.yes c43 rfl rfl rfl rfl) rfl rfl rfl (p_fieldAddr ty_f27_5 rfl rfl) ?_
       refine DL.quiet (v:=a1_5) rfl (Wn.yes c43 rfl rfl rfl rfl) rfl rfl rfl (f_load (j:=0) ty_a24 rfl rfl rfl rfl) ?_
       obtain ⟨t45,h46,h47⟩:=bind_some h44
       refine DL.quiet (v:=.bool t45) rfl (Wn.yes c43 rfl rfl rfl rfl) rfl rfl rfl (f_callR rfl rfl (args_val (vs:=[a0_5,a1_5]) rfl) (fun w => enter36 _ w) (fun w hc => slices_Equal_36.val h46 (M:=M) w (hE.ext hc) hr_a0_5 hr_a1_5)) ?_
       refine DL.pu 44 (.bool t45) rfl (p_pick_t c43 rfl rfl rfl) ?_
       obtain rfl:=Option.some.inj h47
       exact DL.weak J42 (Sub.cons rfl (Sub.cons rfl (Sub.cons rfl (Sub.nil _))))
      ·
       replace c43:=Bool.eq_false_iff.mpr c43
       have h48:=ite_false c43 h40
       refine DL.not (i:=34) rfl (Wn.no c43 rfl rfl rfl rfl) rfl rfl ?_
       refine DL.not (i:=35) rfl (Wn.no c43 rfl rfl rfl rfl) rfl rfl ?_
       refine DL.not (i:=36) rfl (Wn.no c43 rfl rfl rfl rfl) rfl rfl ?_
       refine DL.not (i:=37) rfl (Wn.no c43 rfl rfl rfl rfl) rfl rfl ?_
       refine DL.not (i:=38) rfl (Wn.no c43 rfl rfl rfl rfl) rfl rfl ?_
       refine DL.pu 44 (.bool false) rfl (p_pick_f c43 rfl rfl rfl) ?_
       obtain rfl:=Option.some.inj h48
       exact DL.weak J42 (Sub.cons rfl (Sub.cons rfl (Sub.cons rfl (Sub.nil _))))
    ·
     by_cases c35 : q20 = true
     ·
      have h36:=ite_true c35 h32
      refine DL.pure (v:=ptr b1 4) rfl (Wn.yes c35 rfl rfl rfl rfl) rfl rfl rfl (p_fieldAddr ty_f27_4 rfl rfl) ?_
      refine DL.quiet (v:=str (Der.text a0)) rfl (Wn.yes c35 rfl rfl rfl rfl) rfl rfl rfl (f_load (j:=1) ty_a9 rfl rfl rfl rfl) ?_
      refine DL.pure (v:=ptr b2 4) rfl (Wn.yes c35 rfl rfl rfl rfl) rfl rfl rfl (p_fieldAddr ty_f27_4 rfl rfl) ?_
      refine DL.quiet (v:=str (Der.text a1)) rfl (Wn.yes c35 rfl rfl rfl rfl) rfl rfl rfl (f_load (j:=0) ty_a9 rfl rfl rfl rfl) ?_
      refine DL.pure (v:=.bool ((Der.text a0) == (Der.text a1))) rfl (Wn.yes c35 rfl rfl rfl rfl) rfl rfl rfl (p_strEq rfl rfl rfl) ?_
      refine DL.pu 37 (.bool ((Der.text a0) == (Der.text a1))) rfl (p_pick_t c35 rfl rfl rfl) ?_
      obtain rfl:=Option.some.inj h36
      exact DL.weak J34 (Sub.cons rfl (Sub.cons rfl (Sub.cons rfl (Sub.nil _))))
     ·
      replace c35:=Bool.eq_false_iff.mpr c35
      have h37:=ite_false c35 h32
      refine DL.not (i:=27) rfl (Wn.no c35 rfl rfl rfl rfl) rfl rfl ?_
      refine DL.not (i:=28) rfl (Wn.no c35 rfl rfl rfl rfl) rfl rfl ?_
      refine DL.not (i:=29) rfl (Wn.no c35 rfl rfl rfl rfl) rfl rfl ?_
      refine DL.not (i:=30) rfl (Wn.no c35 rfl rfl rfl rfl) rfl rfl ?_
      refine DL.not (i:=31) rfl (Wn.no c35 rfl rfl rfl rfl) rfl rfl ?_
      refine DL.pu 37 (.bool false) rfl (p_pick_f c35 rfl rfl rfl) ?_
      obtain rfl:=Option.some.inj h37
      exact DL.weak J34 (Sub.cons rfl (Sub.cons rfl (Sub.cons rfl (Sub.nil _))))
   ·
    by_cases c24 : q12 = true
    ·
     have h25:=ite_true c24 h21
     refine DL.pure (v:=ptr b1 3) rfl (Wn.yes c24 rfl rfl rfl rfl) rfl rfl rfl (p_fieldAddr ty_f27_3 rfl rfl) ?_
     refine DL.quiet (v:=a0_3) rfl (Wn.yes c24 rfl rfl rfl rfl) rfl rfl rfl (f_load (j:=1) ty_a23 rfl rfl rfl rfl) ?_
     refine DL.pure (v:=ptr b2 3) rfl (Wn.yes c24 rfl rfl rfl rfl) rfl rfl rfl (p_fieldAddr ty_f27_3 rfl rfl) ?_
     refine DL.quiet (v:=a1_3) rfl (Wn.yes c24 rfl rfl rfl rfl) rfl rfl rfl (f_load (j:=0) ty_a23 rfl rfl rfl rfl) ?_
     obtain ⟨t26,h27,h28⟩:=bind_some h25
     refine DL.quiet (v:=.bool t26) rfl (Wn.yes c24 rfl rfl rfl rfl) rfl rfl rfl (f_callR rfl rfl (args_val (vs:=[a0_3,a1_3]) rfl) (fun w => enter35 _ w) (fun w hc => slices_Equal_35.val h27 (M:=M) w (hE.ext hc) hr_a0_3 hr_a1_3)) ?_
     refine DL.pu 30 (.bool t26) rfl (p_pick_t c24 rfl rfl rfl) ?_
     obtain rfl:=Option.some.inj h28
     exact DL.weak J23 (Sub.cons rfl (Sub.cons rfl (Sub.cons rfl (Sub.nil _))))
    ·
     replace c24:=Bool.eq_false_iff.mpr c24
     have h29:=ite_false c24 h21
     refine DL.not (i:=20) rfl (Wn.no c24 rfl rfl rfl rfl) rfl rfl ?_
     refine DL.not (i:=21) rfl (Wn.no c24 rfl rfl rfl rfl) rfl rfl ?_
     refine DL.not (i:=22) rfl (Wn.no c24 rfl rfl rfl rfl) rfl rfl ?_
     refine DL.not (i:=23) rfl (Wn.no c24 rfl rfl rfl rfl) rfl rfl ?_
     refine DL.not (i:=24) rfl (Wn.no c24 rfl rfl rfl rfl) rfl rfl ?_
     refine DL.pu 30 (.bool false) rfl (p_pick_f c24 rfl rfl rfl) ?_
     obtain rfl:=Option.some.inj h29
     exact DL.weak J23 (Sub.cons rfl (Sub.cons rfl (Sub.cons rfl (Sub.nil _))))
  ·
   by_cases c16 : q4 = true
   ·
    have h17:=ite_true c16 h13
    refine DL.pure (v:=ptr b1 2) rfl (Wn.yes c16 rfl rfl rfl rfl) rfl rfl rfl (p_fieldAddr ty_f27_2 rfl rfl) ?_
    refine DL.quiet (v:=.int .i64 (Der.num a0)) rfl (Wn.yes c16 rfl rfl rfl rfl) rfl rfl rfl (f_load (j:=1) ty_a2 rfl rfl rfl rfl) ?_
    refine DL.pure (v:=ptr b2 2) rfl (Wn.yes c16 rfl rfl rfl rfl) rfl rfl rfl (p_fieldAddr ty_f27_2 rfl rfl) ?_
    refine DL.quiet (v:=.int .i64 (Der.num a1)) rfl (Wn.yes c16 rfl rfl rfl rfl) rfl rfl rfl (f_load (j:=0) ty_a2 rfl rfl rfl rfl) ?_
    refine DL.pure (v:=.bool ((Der.num a0) == (Der.num a1))) rfl (Wn.yes c16 rfl rfl rfl rfl) rfl rfl rfl (p_eql rfl rfl rfl) ?_
    refine DL.pu 23 (.bool ((Der.num a0) == (Der.num a1))) rfl (p_pick_t c16 rfl rfl rfl) ?_
    obtain rfl:=Option.some.inj h17
    exact DL.weak J15 (Sub.cons rfl (Sub.cons rfl (Sub.cons rfl (Sub.nil _))))
   ·
    replace c16:=Bool.eq_false_iff.mpr c16
    have h18:=ite_false c16 h13
    refine DL.not (i:=13) rfl (Wn.no c16 rfl rfl rfl rfl) rfl rfl ?_
    refine DL.not (i:=14) rfl (Wn.no c16 rfl rfl rfl rfl) rfl rfl ?_
    refine DL.not (i:=15) rfl (Wn.no c16 rfl rfl rfl rfl) rfl rfl ?_
    refine DL.not (i:=16) rfl (Wn.no c16 rfl rfl rfl rfl) rfl rfl ?_
    refine DL.not (i:=17) rfl (Wn.no c16 rfl rfl rfl rfl) rfl rfl ?_
    refine DL.pu 23 (.bool false) rfl (p_pick_f c16 rfl rfl rfl) ?_
    obtain rfl:=Option.some.inj h18
    exact DL.weak J15 (Sub.cons rfl (Sub.cons rfl (Sub.cons rfl (Sub.nil _))))
 ·
  by_cases c8 : ((Der.kind a0) == (Der.kind a1)) = true
  ·
   have h9:=ite_true c8 h5
   refine DL.pure (v:=ptr b1 1) rfl (Wn.yes c8 rfl rfl rfl rfl) rfl rfl rfl (p_fieldAddr ty_f27_1 rfl rfl) ?_
   refine DL.quiet (v:=.bool (Der.flag a0)) rfl (Wn.yes c8 rfl rfl rfl rfl) rfl rfl rfl (f_load (j:=1) ty_a4 rfl rfl rfl rfl) ?_
   refine DL.pure (v:=ptr b2 1) rfl (Wn.yes c8 rfl rfl rfl rfl) rfl rfl rfl (p_fieldAddr ty_f27_1 rfl rfl) ?_
   refine DL.quiet (v:=.bool (Der.flag a1)) rfl (Wn.yes c8 rfl rfl rfl rfl) rfl rfl rfl (f_load (j:=0) ty_a4 rfl rfl rfl rfl) ?_
   refine DL.pure (v:=.bool ((Der.flag a0) == (Der.flag a1))) rfl (Wn.yes c8 rfl rfl rfl rfl) rfl rfl rfl (p_eqb ty_u4 rfl rfl rfl) ?_
   refine DL.pu 16 (.bool ((Der.flag a0) == (Der.flag a1))) rfl (p_pick_t c8 rfl rfl rfl) ?_
   obtain rfl:=Option.some.inj h9
   exact DL.weak J7 (Sub.cons rfl (Sub.cons rfl (Sub.cons rfl (Sub.nil _))))
  ·
   replace c8:=Bool.eq_false_iff.mpr c8
   have h10:=ite_false c8 h5
   refine DL.not (i:=6) rfl (Wn.no c8 rfl rfl rfl rfl) rfl rfl ?_
   refine DL.not (i:=7) rfl (Wn.no c8 rfl rfl rfl rfl) rfl rfl ?_
   refine DL.not (i:=8) rfl (Wn.no c8 rfl rfl rfl rfl) rfl rfl ?_
   refine DL.not (i:=9) rfl (Wn.no c8 rfl rfl rfl rfl) rfl rfl ?_
   refine DL.not (i:=10) rfl (Wn.no c8 rfl rfl rfl rfl) rfl rfl ?_
   refine DL.pu 16 (.bool false) rfl (p_pick_f c8 rfl rfl rfl) ?_
   obtain rfl:=Option.some.inj h10
   exact DL.weak J7 (Sub.cons rfl (Sub.cons rfl (Sub.cons rfl (Sub.nil _))))
theorem der_Same.valF {r_der_Same : Der → Der → Option (Bool)} (hr_der_Same : der_Same.Rec r_der_Same) {a0 : Der} {a1 : Der} {a0_3 : Value} {a0_5 : Value} {a0_6 : Value} {a1_3 : Value} {a1_5 : Value} {a1_6 : Value} {r : Bool} (h : der_Same.F r_der_Same a0 a1 = some r) {M : Mem} (w : World) (hM : Ext M (heapOf w)) (hr_a0_3 : IntRow M .u8 a0_3 (Der.bytes a0)) (hr_a0_5 : IntRow M .u64 a0_5 (Der.arcs a0)) (hr_a0_6 : RowS ShDer M a0_6 (Tree.kids a0)) (hr_a1_3 : IntRow M .u8 a1_3 (Der.bytes a1)) (hr_a1_5 : IntRow M .u64 a1_5 (Der.arcs a1)) (hr_a1_6 : RowS ShDer M a1_6 (Tree.kids a1)) : Calls Tryd.prog 17 #[.agg (Der.ce a0 a0_3 a0_5 a0_6),.agg (Der.ce a1 a1_3 a1_5 a1_6)] w fun e w' => e = .returned (.bool r) ∧ Below w.heap.size w w' :=
 calls_value (der_Same.okF hr_der_Same h w hM hr_a0_3 hr_a0_5 hr_a0_6 hr_a1_3 hr_a1_5 hr_a1_6)
def der_Same.f : Nat → Der → Der → Option (Bool)
 | 0,_,_ => none
 | k + 1,a0,a1 => der_Same.F (der_Same.f k) a0 a1
theorem der_Same.rec : ∀ k,der_Same.Rec (der_Same.f k):=by
 intro k
 induction k with
 | zero => intro _ _ _ _ _ _ _ _ _ h; simp [der_Same.f] at h
 | succ k ih => intro a0 a1 a0_3 a0_5 a0_6 a1_3 a1_5 a1_6 r h M w hM hr_a0_3 hr_a0_5 hr_a0_6 hr_a1_3 hr_a1_5 hr_a1_6; exact der_Same.valF ih h w hM hr_a0_3 hr_a0_5 hr_a0_6 hr_a1_3 hr_a1_5 hr_a1_6
theorem der_Same.ok {k : Nat} {a0 : Der} {a1 : Der} {a0_3 : Value} {a0_5 : Value} {a0_6 : Value} {a1_3 : Value} {a1_5 : Value} {a1_6 : Value} {r : Bool} (h : der_Same.f k a0 a1 = some r) {M : Mem} (w : World) (hM : Ext M (heapOf w)) (hr_a0_3 : IntRow M .u8 a0_3 (Der.bytes a0)) (hr_a0_5 : IntRow M .u64 a0_5 (Der.arcs a0)) (hr_a0_6 : RowS ShDer M a0_6 (Tree.kids a0)) (hr_a1_3 : IntRow M .u8 a1_3 (Der.bytes a1)) (hr_a1_5 : IntRow M .u64 a1_5 (Der.arcs a1)) (hr_a1_6 : RowS ShDer M a1_6 (Tree.kids a1)) : Calls Tryd.prog 17 #[.agg (Der.ce a0 a0_3 a0_5 a0_6),.agg (Der.ce a1 a1_3 a1_5 a1_6)] w (Post (fun u => u = .bool r) w) :=
 (der_Same.rec k h w hM hr_a0_3 hr_a0_5 hr_a0_6 hr_a1_3 hr_a1_5 hr_a1_6).mono fun e w' ⟨he,hb⟩ => ⟨_,he,rfl,hb⟩
theorem der_Same.val {k : Nat} {a0 : Der} {a1 : Der} {a0_3 : Value} {a0_5 : Value} {a0_6 : Value} {a1_3 : Value} {a1_5 : Value} {a1_6 : Value} {r : Bool} (h : der_Same.f k a0 a1 = some r) {M : Mem} (w : World) (hM : Ext M (heapOf w)) (hr_a0_3 : IntRow M .u8 a0_3 (Der.bytes a0)) (hr_a0_5 : IntRow M .u64 a0_5 (Der.arcs a0)) (hr_a0_6 : RowS ShDer M a0_6 (Tree.kids a0)) (hr_a1_3 : IntRow M .u8 a1_3 (Der.bytes a1)) (hr_a1_5 : IntRow M .u64 a1_5 (Der.arcs a1)) (hr_a1_6 : RowS ShDer M a1_6 (Tree.kids a1)) : Calls Tryd.prog 17 #[.agg (Der.ce a0 a0_3 a0_5 a0_6),.agg (Der.ce a1 a1_3 a1_5 a1_6)] w fun e w' => e = .returned (.bool r) ∧ Below w.heap.size w w' :=
 der_Same.rec k h w hM hr_a0_3 hr_a0_5 hr_a0_6 hr_a1_3 hr_a1_5 hr_a1_6

/-! ### escutcheon/escutcheonref13.own: function 34 -/
noncomputable def B34 : Code:=bodyOf Tryd.f34
def ref13_own.L0 (a0 : Der) : Nat → Bool → Int → Option (Bool)
 | 0,_,_ => none
 | k + 1,x4_53,x5_54 => if (decide (x5_54 < ((Der.arcs a0).length : Int))) = true then ((if x4_53 = true then (req (0 ≤ x5_54) (req (x5_54 < ((Der.arcs a0).length : Int)) (nm (decide (((Der.arcs a0).getD x5_54.toNat 0) < 2147483648)) fun t137 => some t137))) else (some false)).bind fun q127 => ref13_own.L0 a0 k q127 (IntKind.i64.wrap (x5_54 + 1))) else (some x4_53)
set_option maxRecDepth 20000 in
theorem ref13_own.L0_ok (a0 : Der) (a0_3 : Value) (a0_5 : Value) (a0_6 : Value) (b1 : Nat) {R : Ending → World → Prop} {w0 : World} {M0 M I : Mem} {K : List Item} (hE : Env w0 M0 M I) (hr_a0_5 : IntRow M .u64 a0_5 (Der.arcs a0)) :
  ∀ (k : Nat) (x4_53 : Bool) (x5_54 : Int) (r0_ : Bool) (h : ref13_own.L0 a0 k x4_53 x5_54 = some r0_) (hk : TT Tryd.prog 34 R 179 w0 I K [(1,ptr b1 0),(3,.int .i64 (Der.kind a0)),(4,.bool r0_)] [(some b1,.cells ((Der.ce a0 a0_3 a0_5 a0_6)) 27 (0,0))]),
   TT Tryd.prog 34 R 179 w0 I (.code (sub [1,1,1,0,1,0,1,1,0,0] B34) :: .inLoop (sub [1,1,1,0,1,0,1,1,0,0] B34) :: .inBlock 0 :: K) [(1,ptr b1 0),(3,.int .i64 (Der.kind a0)),(4,.bool x4_53),(5,.int .i64 x5_54)] [(some b1,.cells ((Der.ce a0 a0_3 a0_5 a0_6)) 27 (0,0))]:=by
 intro k
 induction k with
 | zero => intro x4_53 x5_54 r0_ h; simp [ref13_own.L0] at h
 | succ k ih =>
  intro x4_53 x5_54 r0_ h hk
  unfold ref13_own.L0 at h
  refine TT.seq (x:=sub [1,1,1,0,1,0,1,1,0,0,0] B34) (y:=sub [1,1,1,0,1,0,1,1,0,0,1] B34) ?_
  refine TT.seq (x:=sub [1,1,1,0,1,0,1,1,0,0,0,0] B34) (y:=sub [1,1,1,0,1,0,1,1,0,0,0,1] B34) ?_
  refine TT.rg [0,1,2,3,4] [kp,kp,kq,kp,kp] rfl rfl ?_
  refine DL.mv 49 (.int .i64 x5_54) rfl rfl rfl ?_
  refine DL.pu 50 (ptr b1 5) rfl (p_fieldAddr ty_f27_5 rfl rfl) ?_
  refine DL.qu 51 (a0_5) rfl (f_load (j:=0) ty_a24 rfl rfl rfl rfl) ?_
  refine DL.pu 52 (.int .i64 ((Der.arcs a0).length : Int)) rfl (p_slLen ty_u24 (RowV.sl hr_a0_5) rfl rfl) ?_
  refine DL.pu 53 (.bool (decide (x5_54 < ((Der.arcs a0).length : Int)))) rfl (p_lss rfl rfl rfl) ?_
  refine DL.nil ?_
  by_cases c124 : (decide (x5_54 < ((Der.arcs a0).length : Int))) = true
  ·
   have h125:=ite_true c124 h
   refine TT.cond_true (x:=sub [1,1,1,0,1,0,1,1,0,0,0,1,0] B34) (y:=sub [1,1,1,0,1,0,1,1,0,0,0,1,1] B34) rfl c124 ?_
   refine TT.skip ?_
   refine TT.seq (x:=sub [1,1,1,0,1,0,1,1,0,0,1,0] B34) (y:=sub [1,1,1,0,1,0,1,1,0,0,1,1] B34) ?_
   refine TT.block (c:=sub [1,1,1,0,1,0,1,1,0,0,1,0,0] B34) ?_
   refine TT.rg [0,1,2,3,4,5,6,7,8,9] [kp,kp,kp,kq,kp,kp,kq,kp,kp,kp] rfl rfl ?_
   refine DL.mv 56 (.bool x4_53) rfl rfl rfl ?_
   refine DL.mv 57 (.bool x4_53) rfl rfl rfl ?_
   obtain ⟨q127,h128,h129⟩:=bind_some h125
   refine DL.cut [(1,ptr b1 0),(3,.int .i64 (Der.kind a0)),(5,.int .i64 x5_54),(64,.bool q127)] [9] ?_ (fun J130 => ?_)
   ·
    refine DL.pu 4 (.bool q127) rfl (p_assign rfl rfl) ?_
    refine DL.nil ?_
    refine TT.inBlock ?_
    refine TT.rg [0,1,2] [kp,kp,kp] rfl rfl ?_
    refine DL.mv 54 (.int .i64 x5_54) rfl rfl rfl ?_
    refine DL.pu 55 (.int .i64 (IntKind.i64.wrap (x5_54 + 1))) rfl (p_add rfl rfl rfl) ?_
    refine DL.pu 5 (.int .i64 (IntKind.i64.wrap (x5_54 + 1))) rfl (p_assign rfl rfl) ?_
    refine DL.nil ?_
    refine TT.inLoop ?_
    exact TT.weak (ih q127 (IntKind.i64.wrap (x5_54 + 1)) r0_ h129 hk) (Sub.cons rfl (Sub.cons rfl (Sub.cons rfl (Sub.cons rfl (Sub.nil _)))))
   ·
    by_cases c131 : x4_53 = true
    ·
     have h132:=ite_true c131 h128
     refine DL.pure (v:=ptr b1 5) rfl (Wn.yes c131 rfl rfl rfl rfl) rfl rfl rfl (p_fieldAddr ty_f27_5 rfl rfl) ?_
     refine DL.quiet (v:=a0_5) rfl (Wn.yes c131 rfl rfl rfl rfl) rfl rfl rfl (f_load (j:=0) ty_a24 rfl rfl rfl rfl) ?_
     refine DL.pure (v:=.int .i64 x5_54) rfl (Wn.yes c131 rfl rfl rfl rfl) rfl rfl rfl (p_move rfl rfl) ?_
     obtain ⟨g133,h134⟩:=req_some h132
     obtain ⟨g135,h136⟩:=req_some h134
     refine DL.pure (v:=elp a0_5 x5_54.toNat) rfl (Wn.yes c131 rfl rfl rfl rfl) rfl rfl rfl (p_slIx1 ty_u24 ty_s50 (RowV.some hr_a0_5 g133 g135) g133 g135 rfl rfl rfl) ?_
     refine DL.quiet (v:=.int .u64 ((Der.arcs a0).getD x5_54.toNat 0)) rfl (Wn.yes c131 rfl rfl rfl rfl) rfl rfl rfl (q_loadEl (fun w hc => hE.imm hc) hr_a0_5 (encl_get .u64 (lt_len g133 g135)) ty_a50 rfl rfl) ?_
     obtain ⟨t137,e138,h139⟩:=nm_some h136
     refine DL.pure (v:=.bool t137) rfl (Wn.yes c131 rfl rfl rfl rfl) rfl rfl rfl (by rw [e138]; exact p_lss rfl rfl rfl) ?_
     refine DL.pu 64 (.bool t137) rfl (p_pick_t c131 rfl rfl rfl) ?_
     obtain rfl:=Option.some.inj h139
     exact DL.weak J130 (Sub.cons rfl (Sub.cons rfl (Sub.cons rfl (Sub.cons rfl (Sub.nil _)))))
    ·
     replace c131:=Bool.eq_false_iff.mpr c131
     have h140:=ite_false c131 h128
     refine DL.not (i:=2) rfl (Wn.no c131 rfl rfl rfl rfl) rfl rfl ?_
     refine DL.not (i:=3) rfl (Wn.no c131 rfl rfl rfl rfl) rfl rfl ?_
     refine DL.not (i:=4) rfl (Wn.no c131 rfl rfl rfl rfl) rfl rfl ?_
     refine DL.not (i:=5) rfl (Wn.no c131 rfl rfl rfl rfl) rfl rfl ?_
     refine DL.not (i:=6) rfl (Wn.no c131 rfl rfl rfl rfl) rfl rfl ?_
     refine DL.not (i:=7) rfl (Wn.no c131 rfl rfl rfl rfl) rfl rfl ?_
     refine DL.pu 64 (.bool false) rfl (p_pick_f c131 rfl rfl rfl) ?_
     obtain rfl:=Option.some.inj h140
     exact DL.weak J130 (Sub.cons rfl (Sub.cons rfl (Sub.cons rfl (Sub.cons rfl (Sub.nil _)))))
  ·
   replace c124:=Bool.eq_false_iff.mpr c124
   have h141:=ite_false c124 h
   refine TT.cond_false (x:=sub [1,1,1,0,1,0,1,1,0,0,0,1,0] B34) (y:=sub [1,1,1,0,1,0,1,1,0,0,0,1,1] B34) rfl c124 ?_
   refine TT.exit rfl ?_
   obtain rfl:=Option.some.inj h141
   exact TT.weak (hk) (Sub.cons rfl (Sub.cons rfl (Sub.cons rfl (Sub.nil _))))

def ref13_own.L1 (a0 : Der) : Nat → Bool → Int → Option (Bool)
 | 0,_,_ => none
 | k + 1,x6_176,x7_177 => (if (decide (x7_177 < 14)) = true then (some x6_176) else (some false)).bind fun q253 => if q253 = true then (req (0 ≤ x7_177) (req (x7_177 < ((Der.text a0).length : Int)) ((if (decide (48 ≤ (chr (Der.text a0) x7_177.toNat))) = true then (some (decide ((chr (Der.text a0) x7_177.toNat) ≤ 57))) else (some false)).bind fun q267 => ref13_own.L1 a0 k q267 (IntKind.i64.wrap (x7_177 + 1))))) else (some x6_176)
set_option maxRecDepth 20000 in
theorem ref13_own.L1_ok (a0 : Der) (a0_3 : Value) (a0_5 : Value) (a0_6 : Value) (b1 : Nat) (j4_3 : Bool) {R : Ending → World → Prop} {w0 : World} {M0 M I : Mem} {K : List Item} (hE : Env w0 M0 M I) :
  ∀ (k : Nat) (x6_176 : Bool) (x7_177 : Int) (r0_ : Bool) (h : ref13_own.L1 a0 k x6_176 x7_177 = some r0_) (hk : TT Tryd.prog 34 R 179 w0 I K [(1,ptr b1 0),(3,.int .i64 (Der.kind a0)),(4,.bool j4_3),(6,.bool r0_)] [(some b1,.cells ((Der.ce a0 a0_3 a0_5 a0_6)) 27 (0,0))]),
   TT Tryd.prog 34 R 179 w0 I (.code (sub [1,1,1,1,1,1,0,1,0,1,1,0,0] B34) :: .inLoop (sub [1,1,1,1,1,1,0,1,0,1,1,0,0] B34) :: .inBlock 2 :: K) [(1,ptr b1 0),(3,.int .i64 (Der.kind a0)),(4,.bool j4_3),(6,.bool x6_176),(7,.int .i64 x7_177)] [(some b1,.cells ((Der.ce a0 a0_3 a0_5 a0_6)) 27 (0,0))]:=by
 intro k
 induction k with
 | zero => intro x6_176 x7_177 r0_ h; simp [ref13_own.L1] at h
 | succ k ih =>
  intro x6_176 x7_177 r0_ h hk
  unfold ref13_own.L1 at h
  refine TT.seq (x:=sub [1,1,1,1,1,1,0,1,0,1,1,0,0,0] B34) (y:=sub [1,1,1,1,1,1,0,1,0,1,1,0,0,1] B34) ?_
  refine TT.seq (x:=sub [1,1,1,1,1,1,0,1,0,1,1,0,0,0,0] B34) (y:=sub [1,1,1,1,1,1,0,1,0,1,1,0,0,0,1] B34) ?_
  refine TT.rg [0,1,2,3,4] [kp,kp,kp,kp,kp] rfl rfl ?_
  refine DL.mv 85 (.int .i64 x7_177) rfl rfl rfl ?_
  refine DL.pu 86 (.bool (decide (x7_177 < 14))) rfl (p_lss rfl rfl rfl) ?_
  refine DL.mv 87 (.bool (decide (x7_177 < 14))) rfl rfl rfl ?_
  obtain ⟨q253,h254,h255⟩:=bind_some h
  refine DL.cut [(1,ptr b1 0),(3,.int .i64 (Der.kind a0)),(4,.bool j4_3),(6,.bool x6_176),(7,.int .i64 x7_177),(89,.bool q253)] [] ?_ (fun J256 => ?_)
  ·
   refine DL.nil ?_
   by_cases c260 : q253 = true
   ·
    have h261:=ite_true c260 h255
    refine TT.cond_true (x:=sub [1,1,1,1,1,1,0,1,0,1,1,0,0,0,1,0] B34) (y:=sub [1,1,1,1,1,1,0,1,0,1,1,0,0,0,1,1] B34) rfl c260 ?_
    refine TT.skip ?_
    refine TT.seq (x:=sub [1,1,1,1,1,1,0,1,0,1,1,0,0,1,0] B34) (y:=sub [1,1,1,1,1,1,0,1,0,1,1,0,0,1,1] B34) ?_
    refine TT.block (c:=sub [1,1,1,1,1,1,0,1,0,1,1,0,0,1,0,0] B34) ?_
    refine TT.rg [0,1,2,3,4,5,6,7,8,9,10,11,12] [kp,kq,kp,kp,kp,kp,kp,kq,kp,kp,kp,kp,kp] rfl rfl ?_
    refine DL.pu 92 (ptr b1 4) rfl (p_fieldAddr ty_f27_4 rfl rfl) ?_
    refine DL.qu 93 (str (Der.text a0)) rfl (f_load (j:=0) ty_a9 rfl rfl rfl rfl) ?_
    refine DL.mv 94 (.int .i64 x7_177) rfl rfl rfl ?_
    obtain ⟨g262,h263⟩:=req_some h261
    obtain ⟨g264,h265⟩:=req_some h263
    refine DL.pu 95 (.int .u8 (chr (Der.text a0) x7_177.toNat)) rfl (p_strIndex ty_u9 g262 g264 rfl rfl rfl) ?_
    refine DL.pu 96 (.bool (decide (48 ≤ (chr (Der.text a0) x7_177.toNat)))) rfl (p_geq rfl rfl rfl) ?_
    refine DL.mv 97 (.bool (decide (48 ≤ (chr (Der.text a0) x7_177.toNat)))) rfl rfl rfl ?_
    obtain ⟨q267,h268,h269⟩:=bind_some h265
    refine DL.cut [(1,ptr b1 0),(3,.int .i64 (Der.kind a0)),(4,.bool j4_3),(7,.int .i64 x7_177),(103,.bool q267)] [12] ?_ (fun J270 => ?_)
    ·
     refine DL.pu 6 (.bool q267) rfl (p_assign rfl rfl) ?_
     refine DL.nil ?_
     refine TT.inBlock ?_
     refine TT.rg [0,1,2] [kp,kp,kp] rfl rfl ?_
     refine DL.mv 90 (.int .i64 x7_177) rfl rfl rfl ?_
     refine DL.pu 91 (.int .i64 (IntKind.i64.wrap (x7_177 + 1))) rfl (p_add rfl rfl rfl) ?_
     refine DL.pu 7 (.int .i64 (IntKind.i64.wrap (x7_177 + 1))) rfl (p_assign rfl rfl) ?_
     refine DL.nil ?_
     refine TT.inLoop ?_
     exact TT.weak (ih q267 (IntKind.i64.wrap (x7_177 + 1)) r0_ h269 hk) (Sub.cons rfl (Sub.cons rfl (Sub.cons rfl (Sub.cons rfl (Sub.cons rfl (Sub.nil _))))))
    ·
     by_cases c271 : (decide (48 ≤ (chr (Der.text a0) x7_177.toNat))) = true
     ·
      have h272:=ite_true c271 h268
      refine DL.pure (v:=ptr b1 4) rfl (Wn.yes c271 rfl rfl rfl rfl) rfl rfl rfl (p_fieldAddr ty_f27_4 rfl rfl) ?_
      refine DL.quiet (v:=str (Der.text a0)) rfl (Wn.yes c271 rfl rfl rfl rfl) rfl rfl rfl (f_load (j:=0) ty_a9 rfl rfl rfl rfl) ?_
      refine DL.pure (v:=.int .i64 x7_177) rfl (Wn.yes c271 rfl rfl rfl rfl) rfl rfl rfl (p_move rfl rfl) ?_
      refine DL.pure (v:=.int .u8 (chr (Der.text a0) x7_177.toNat)) rfl (Wn.yes c271 rfl rfl rfl rfl) rfl rfl rfl (p_strIndex ty_u9 g262 g264 rfl rfl rfl) ?_
      refine DL.pure (v:=.bool (decide ((chr (Der.text a0) x7_177.toNat) ≤ 57))) rfl (Wn.yes c271 rfl rfl rfl rfl) rfl rfl rfl (p_leq rfl rfl rfl) ?_
      refine DL.pu 103 (.bool (decide ((chr (Der.text a0) x7_177.toNat) ≤ 57))) rfl (p_pick_t c271 rfl rfl rfl) ?_
      obtain rfl:=Option.some.inj h272
      exact DL.weak J270 (Sub.cons rfl (Sub.cons rfl (Sub.cons rfl (Sub.cons rfl (Sub.cons rfl (Sub.nil _))))))
     ·
      replace c271:=Bool.eq_false_iff.mpr c271
      have h273:=ite_false c271 h268
      refine DL.not (i:=6) rfl (Wn.no c271 rfl rfl rfl rfl) rfl rfl ?_
      refine DL.not (i:=7) rfl (Wn.no c271 rfl rfl rfl rfl) rfl rfl ?_
      refine DL.not (i:=8) rfl (Wn.no c271 rfl rfl rfl rfl) rfl rfl ?_
      refine DL.not (i:=9) rfl (Wn.no c271 rfl rfl rfl rfl) rfl rfl ?_
      refine DL.not (i:=10) rfl (Wn.no c271 rfl rfl rfl rfl) rfl rfl ?_
      refine DL.pu 103 (.bool false) rfl (p_pick_f c271 rfl rfl rfl) ?_
      obtain rfl:=Option.some.inj h273
      exact DL.weak J270 (Sub.cons rfl (Sub.cons rfl (Sub.cons rfl (Sub.cons rfl (Sub.cons rfl (Sub.nil _))))))
   ·
    replace c260:=Bool.eq_false_iff.mpr c260
    have h274:=ite_false c260 h255
    refine TT.cond_false (x:=sub [1,1,1,1,1,1,0,1,0,1,1,0,0,0,1,0] B34) (y:=sub [1,1,1,1,1,1,0,1,0,1,1,0,0,0,1,1] B34) rfl c260 ?_
    refine TT.exit rfl ?_
    obtain rfl:=Option.some.inj h274
    exact TT.weak (hk) (Sub.cons rfl (Sub.cons rfl (Sub.cons rfl (Sub.cons rfl (Sub.nil _)))))
  ·
   by_cases c257 : (decide (x7_177 < 14)) = true
   ·
    have h258:=ite_true c257 h254
    refine DL.pure (v:=.bool x6_176) rfl (Wn.yes c257 rfl rfl rfl rfl) rfl rfl rfl (p_move rfl rfl) ?_
    refine DL.pu 89 (.bool x6_176) rfl (p_pick_t c257 rfl rfl rfl) ?_
    obtain rfl:=Option.some.inj h258
    exact DL.weak J256 (Sub.cons rfl (Sub.cons rfl (Sub.cons rfl (Sub.cons rfl (Sub.cons rfl (Sub.cons rfl (Sub.nil _)))))))
   ·
    replace c257:=Bool.eq_false_iff.mpr c257
    have h259:=ite_false c257 h254
    refine DL.not (i:=3) rfl (Wn.no c257 rfl rfl rfl rfl) rfl rfl ?_
    refine DL.pu 89 (.bool false) rfl (p_pick_f c257 rfl rfl rfl) ?_
    obtain rfl:=Option.some.inj h259
    exact DL.weak J256 (Sub.cons rfl (Sub.cons rfl (Sub.cons rfl (Sub.cons rfl (Sub.cons rfl (Sub.cons rfl (Sub.nil _)))))))

def ref13_own.f (a0 : Der) : Option (Bool):=(if ((Der.kind a0) == 5) = true then ((if (decide (2 ≤ ((Der.arcs a0).length : Int))) = true then (some (decide (((Der.arcs a0).length : Int) ≤ 16))) else (some false)).bind fun q10 => (if q10 = true then (req ((0 : Int) < ((Der.arcs a0).length : Int)) (nm (decide (((Der.arcs a0).getD ((0 : Int).toNat) 0) ≤ 2)) fun t26 => some t26)) else (some false)).bind fun q18 => (if q18 = true then (req ((0 : Int) < ((Der.arcs a0).length : Int)) ((if (((Der.arcs a0).getD ((0 : Int).toNat) 0) == 2) = true then (some true) else (req ((1 : Int) < ((Der.arcs a0).length : Int)) (nm (decide (((Der.arcs a0).getD ((1 : Int).toNat) 0) < 40)) fun t49 => some t49))).bind fun q40 => some q40)) else (some false)).bind fun q31 => (ref13_own.L0 a0 (((Der.arcs a0).length : Int).toNat + 1) q31 0).bind fun z4_123 => some z4_123) else (some (((Der.arcs a0).length : Int) == 0))).bind fun j4_3 => (if ((Der.kind a0) == 6) = true then (req ((Der.text a0).length ≤ 9223372036854775807) (nm (Lib.validD (Der.text a0)) fun t155 => some t155)) else (some ((Der.text a0) == ([] : List UInt8)))).bind fun j6_147 => (if ((Der.kind a0) == 10) = true then ((if (((Der.text a0).length : Int) == 15) = true then (req ((14 : Int) < ((Der.text a0).length : Int)) (some ((chr (Der.text a0) (14 : Int).toNat) == 90))) else (some false)).bind fun q167 => (ref13_own.L1 a0 ((14 : Int).toNat + 1) q167 0).bind fun z6_251 => some z6_251) else (some j6_147)).bind fun j6_160 => (if ((Der.num a0) == 0) = true then (some true) else (some ((Der.kind a0) == 2))).bind fun q280 => (if q280 = true then (some true) else ((if ((Der.kind a0) == 8) = true then (some (decide (0 ≤ (Der.num a0)))) else (some false)).bind fun q296 => (if q296 = true then (some (decide ((Der.num a0) ≤ 30))) else (some false)).bind fun q304 => some q304)).bind fun q288 => (if ((Der.kind a0) == 7) = true then (some true) else (some (((Tree.kids a0).length : Int) == 0))).bind fun j9_312 => (if ((Der.kind a0) == 9) = true then (some true) else (some ((Der.kind a0) == 8))).bind fun q320 => (if q320 = true then (some (((Tree.kids a0).length : Int) == 1)) else (some j9_312)).bind fun j9_328 => (ref13_tag.f a0).bind fun t335 => (if (decide (0 < t335)) = true then (some j4_3) else (some false)).bind fun q339 => (if q339 = true then (some j6_160) else (some false)).bind fun q347 => (if q347 = true then (some q288) else (some false)).bind fun q355 => (if q355 = true then (some j9_328) else (some false)).bind fun q363 => (if q363 = true then ((if (!(Der.flag a0)) = true then (some true) else (some ((Der.kind a0) == 1))).bind fun q378 => some q378) else (some false)).bind fun q371 => (if q371 = true then ((if (((Der.bytes a0).length : Int) == 0) = true then (some true) else (some ((Der.kind a0) == 3))).bind fun q394 => (if q394 = true then (some true) else (some ((Der.kind a0) == 4))).bind fun q402 => some q402) else (some false)).bind fun q387 => some q387
set_option maxRecDepth 20000 in
theorem ref13_own.ok {a0 : Der} {a0_3 : Value} {a0_5 : Value} {a0_6 : Value} {r : Bool} (h : ref13_own.f a0 = some r) {M : Mem} (w : World) (hM : Ext M (heapOf w)) (hG : Glob M) (hr_a0_3 : IntRow M .u8 a0_3 (Der.bytes a0)) (hr_a0_5 : IntRow M .u64 a0_5 (Der.arcs a0)) (hr_a0_6 : RowS ShDer M a0_6 (Tree.kids a0)) : Calls Tryd.prog 34 #[.agg (Der.ce a0 a0_3 a0_5 a0_6)] w (Post (fun u => u = .bool r) w):=by
 unfold ref13_own.f at h
 have hE:=Env.start hM
 refine calls_of_TT (N:=179) (S:=[(0,.agg (Der.ce a0 a0_3 a0_5 a0_6))]) (c:=B34) Tryd.func34 rfl rfl rfl (by simp) ?_
 show TT _ _ _ _ _ _ [.code (sub [] B34)] _ _
 refine TT.seq (x:=sub [0] B34) (y:=sub [1] B34) ?_
 refine TT.rg [0,1] [(.alloc,none),kp] rfl rfl ?_
 refine DL.new (ob:=.cells ((Der.ce a0 a0_3 a0_5 a0_6)) 27) (mk:=fun b => ptr b 0) (i:=0) rfl (Wn.none rfl) rfl rfl rfl (f_box (v:=.agg (Der.ce a0 a0_3 a0_5 a0_6)) rfl rfl) ?_
 intro b1 hb1
 refine DL.pu 2 (.bool false) rfl (p_assign rfl rfl) ?_
 refine DL.nil ?_
 refine TT.seq (x:=sub [1,0] B34) (y:=sub [1,1] B34) ?_
 refine TT.rg [0,1,2] [kp,kq,kp] rfl rfl ?_
 refine DL.pu 10 (ptr b1 0) rfl (p_fieldAddr ty_f27_0 rfl rfl) ?_
 refine DL.qu 11 (.int .i64 (Der.kind a0)) rfl (f_load (j:=0) ty_a22 rfl rfl rfl rfl) ?_
 refine DL.pu 3 (.int .i64 (Der.kind a0)) rfl (p_assign rfl rfl) ?_
 refine DL.nil ?_
 refine TT.seq (x:=sub [1,1,0] B34) (y:=sub [1,1,1] B34) ?_
 refine TT.rg [0,1,2,3,4] [kp,kq,kp,kp,kp] rfl rfl ?_
 refine DL.pu 12 (ptr b1 5) rfl (p_fieldAddr ty_f27_5 rfl rfl) ?_
 refine DL.qu 13 (a0_5) rfl (f_load (j:=0) ty_a24 rfl rfl rfl rfl) ?_
 refine DL.pu 14 (.int .i64 ((Der.arcs a0).length : Int)) rfl (p_slLen ty_u24 (RowV.sl hr_a0_5) rfl rfl) ?_
 refine DL.pu 15 (.bool (((Der.arcs a0).length : Int) == 0)) rfl (p_eql rfl rfl rfl) ?_
 refine DL.pu 4 (.bool (((Der.arcs a0).length : Int) == 0)) rfl (p_assign rfl rfl) ?_
 refine DL.nil ?_
 refine TT.seq (x:=sub [1,1,1,0] B34) (y:=sub [1,1,1,1] B34) ?_
 refine TT.seq (x:=sub [1,1,1,0,0] B34) (y:=sub [1,1,1,0,1] B34) ?_
 refine TT.rg [0,1] [kp,kp] rfl rfl ?_
 refine DL.mv 16 (.int .i64 (Der.kind a0)) rfl rfl rfl ?_
 refine DL.pu 17 (.bool ((Der.kind a0) == 5)) rfl (p_eql rfl rfl rfl) ?_
 refine DL.nil ?_
 obtain ⟨j4_3,h4,h5⟩:=bind_some h
 have J6 : TT Tryd.prog 34 (Post (fun u => u = .bool r) w) 179 w (heapOf w) (.code (sub [1,1,1,1] B34) :: []) [(1,ptr b1 0),(3,.int .i64 (Der.kind a0)),(4,.bool j4_3)] [(some b1,.cells ((Der.ce a0 a0_3 a0_5 a0_6)) 27 (0,0))]:=by
  refine TT.seq (x:=sub [1,1,1,1,0] B34) (y:=sub [1,1,1,1,1] B34) ?_
  refine TT.rg [0,1,2,3] [kp,kq,kp,kp] rfl rfl ?_
  refine DL.pu 65 (ptr b1 4) rfl (p_fieldAddr ty_f27_4 rfl rfl) ?_
  refine DL.qu 66 (str (Der.text a0)) rfl (f_load (j:=0) ty_a9 rfl rfl rfl rfl) ?_
  refine DL.pu 67 (.bool ((Der.text a0) == ([] : List UInt8))) rfl (p_strEq rfl rfl rfl) ?_
  refine DL.pu 6 (.bool ((Der.text a0) == ([] : List UInt8))) rfl (p_assign rfl rfl) ?_
  refine DL.nil ?_
  refine TT.seq (x:=sub [1,1,1,1,1,0] B34) (y:=sub [1,1,1,1,1,1] B34) ?_
  refine TT.seq (x:=sub [1,1,1,1,1,0,0] B34) (y:=sub [1,1,1,1,1,0,1] B34) ?_
  refine TT.rg [0,1] [kp,kp] rfl rfl ?_
  refine DL.mv 68 (.int .i64 (Der.kind a0)) rfl rfl rfl ?_
  refine DL.pu 69 (.bool ((Der.kind a0) == 6)) rfl (p_eql rfl rfl rfl) ?_
  refine DL.nil ?_
  obtain ⟨j6_147,h148,h149⟩:=bind_some h5
  have J150 : TT Tryd.prog 34 (Post (fun u => u = .bool r) w) 179 w (heapOf w) (.code (sub [1,1,1,1,1,1] B34) :: []) [(1,ptr b1 0),(3,.int .i64 (Der.kind a0)),(4,.bool j4_3),(6,.bool j6_147)] [(some b1,.cells ((Der.ce a0 a0_3 a0_5 a0_6)) 27 (0,0))]:=by
   refine TT.seq (x:=sub [1,1,1,1,1,1,0] B34) (y:=sub [1,1,1,1,1,1,1] B34) ?_
   refine TT.seq (x:=sub [1,1,1,1,1,1,0,0] B34) (y:=sub [1,1,1,1,1,1,0,1] B34) ?_
   refine TT.rg [0,1] [kp,kp] rfl rfl ?_
   refine DL.mv 73 (.int .i64 (Der.kind a0)) rfl rfl rfl ?_
   refine DL.pu 74 (.bool ((Der.kind a0) == 10)) rfl (p_eql rfl rfl rfl) ?_
   refine DL.nil ?_
   obtain ⟨j6_160,h161,h162⟩:=bind_some h149
   have J163 : TT Tryd.prog 34 (Post (fun u => u = .bool r) w) 179 w (heapOf w) (.code (sub [1,1,1,1,1,1,1] B34) :: []) [(1,ptr b1 0),(3,.int .i64 (Der.kind a0)),(4,.bool j4_3),(6,.bool j6_160)] [(some b1,.cells ((Der.ce a0 a0_3 a0_5 a0_6)) 27 (0,0))]:=by
    refine TT.seq (x:=sub [1,1,1,1,1,1,1,0] B34) (y:=sub [1,1,1,1,1,1,1,1] B34) ?_
    refine TT.rg [0,1,2,3,4,5,6,7,8,9,10,11,12,13,14,15,16,17,18,19,20,21] [kp,kq,kp,kp,kp,kp,kp,kp,kp,kp,kp,kp,kq,kp,kp,kp,kp,kq,kp,kp,kp,kp] rfl rfl ?_
    refine DL.pu 104 (ptr b1 2) rfl (p_fieldAddr ty_f27_2 rfl rfl) ?_
    refine DL.qu 105 (.int .i64 (Der.num a0)) rfl (f_load (j:=0) ty_a2 rfl rfl rfl rfl) ?_
    refine DL.pu 106 (.bool ((Der.num a0) == 0)) rfl (p_eql rfl rfl rfl) ?_
    refine DL.mv 107 (.bool ((Der.num a0) == 0)) rfl rfl rfl ?_
    obtain ⟨q280,h281,h282⟩:=bind_some h162
    refine DL.cut [(1,ptr b1 0),(3,.int .i64 (Der.kind a0)),(4,.bool j4_3),(6,.bool j6_160),(110,.bool q280)] [7,8,9,10,11,12,13,14,15,16,17,18,19,20,21] ?_ (fun J283 => ?_)
    ·
     refine DL.mv 111 (.bool q280) rfl rfl rfl ?_
     obtain ⟨q288,h289,h290⟩:=bind_some h282
     refine DL.cut [(1,ptr b1 0),(3,.int .i64 (Der.kind a0)),(4,.bool j4_3),(6,.bool j6_160),(124,.bool q288)] [21] ?_ (fun J291 => ?_)
     ·
      refine DL.pu 8 (.bool q288) rfl (p_assign rfl rfl) ?_
      refine DL.nil ?_
      refine TT.seq (x:=sub [1,1,1,1,1,1,1,1,0] B34) (y:=sub [1,1,1,1,1,1,1,1,1] B34) ?_
      refine TT.rg [0,1,2,3,4] [kp,kq,kp,kp,kp] rfl rfl ?_
      refine DL.pu 125 (ptr b1 6) rfl (p_fieldAddr ty_f27_6 rfl rfl) ?_
      refine DL.qu 126 (a0_6) rfl (f_load (j:=0) ty_a25 rfl rfl rfl rfl) ?_
      refine DL.pu 127 (.int .i64 ((Tree.kids a0).length : Int)) rfl (p_slLen ty_u25 (RowS.sl hr_a0_6) rfl rfl) ?_
      refine DL.pu 128 (.bool (((Tree.kids a0).length : Int) == 0)) rfl (p_eql rfl rfl rfl) ?_
      refine DL.pu 9 (.bool (((Tree.kids a0).length : Int) == 0)) rfl (p_assign rfl rfl) ?_
      refine DL.nil ?_
      refine TT.seq (x:=sub [1,1,1,1,1,1,1,1,1,0] B34) (y:=sub [1,1,1,1,1,1,1,1,1,1] B34) ?_
      refine TT.seq (x:=sub [1,1,1,1,1,1,1,1,1,0,0] B34) (y:=sub [1,1,1,1,1,1,1,1,1,0,1] B34) ?_
      refine TT.rg [0,1] [kp,kp] rfl rfl ?_
      refine DL.mv 129 (.int .i64 (Der.kind a0)) rfl rfl rfl ?_
      refine DL.pu 130 (.bool ((Der.kind a0) == 7)) rfl (p_eql rfl rfl rfl) ?_
      refine DL.nil ?_
      obtain ⟨j9_312,h313,h314⟩:=bind_some h290
      have J315 : TT Tryd.prog 34 (Post (fun u => u = .bool r) w) 179 w (heapOf w) (.code (sub [1,1,1,1,1,1,1,1,1,1] B34) :: []) [(1,ptr b1 0),(3,.int .i64 (Der.kind a0)),(4,.bool j4_3),(6,.bool j6_160),(8,.bool q288),(9,.bool j9_312)] [(some b1,.cells ((Der.ce a0 a0_3 a0_5 a0_6)) 27 (0,0))]:=by
       refine TT.seq (x:=sub [1,1,1,1,1,1,1,1,1,1,0] B34) (y:=sub [1,1,1,1,1,1,1,1,1,1,1] B34) ?_
       refine TT.seq (x:=sub [1,1,1,1,1,1,1,1,1,1,0,0] B34) (y:=sub [1,1,1,1,1,1,1,1,1,1,0,1] B34) ?_
       refine TT.rg [0,1,2,3,4,5] [kp,kp,kp,kp,kp,kp] rfl rfl ?_
       refine DL.mv 131 (.int .i64 (Der.kind a0)) rfl rfl rfl ?_
       refine DL.pu 132 (.bool ((Der.kind a0) == 9)) rfl (p_eql rfl rfl rfl) ?_
       refine DL.mv 133 (.bool ((Der.kind a0) == 9)) rfl rfl rfl ?_
       obtain ⟨q320,h321,h322⟩:=bind_some h314
       refine DL.cut [(1,ptr b1 0),(3,.int .i64 (Der.kind a0)),(4,.bool j4_3),(6,.bool j6_160),(8,.bool q288),(9,.bool j9_312),(136,.bool q320)] [] ?_ (fun J323 => ?_)
       ·
        refine DL.nil ?_
        obtain ⟨j9_328,h329,h330⟩:=bind_some h322
        have J331 : TT Tryd.prog 34 (Post (fun u => u = .bool r) w) 179 w (heapOf w) (.code (sub [1,1,1,1,1,1,1,1,1,1,1] B34) :: []) [(1,ptr b1 0),(3,.int .i64 (Der.kind a0)),(4,.bool j4_3),(6,.bool j6_160),(8,.bool q288),(9,.bool j9_328)] [(some b1,.cells ((Der.ce a0 a0_3 a0_5 a0_6)) 27 (0,0))]:=by
         refine TT.seq (x:=sub [1,1,1,1,1,1,1,1,1,1,1,0] B34) (y:=sub [1,1,1,1,1,1,1,1,1,1,1,1] B34) ?_
         refine TT.rg [0,1,2,3,4,5,6,7,8,9,10,11,12,13,14,15,16,17,18,19,20,21,22,23,24,25,26,27,28,29,30,31,32,33,34,35,36,37,38] [kq,kq,kp,kp,kp,kp,kp,kp,kp,kp,kp,kp,kp,kp,kp,kp,kp,kq,kp,kp,kp,kp,kp,kp,kp,kp,kq,kp,kp,kp,kp,kp,kp,kp,kp,kp,kp,kp,kp] rfl rfl ?_
         refine DL.qu 141 (.agg (Der.ce a0 a0_3 a0_5 a0_6)) rfl (f_loadA (j:=0) ty_a27 ty_s27 rfl rfl rfl rfl) ?_
         obtain ⟨t335,h336,h337⟩:=bind_some h330
         refine DL.qu 142 (.int .i64 t335) rfl (f_callR rfl rfl (args_val (vs:=[.agg (Der.ce a0 a0_3 a0_5 a0_6)]) rfl) (fun w => enter46 _ w) (fun w hc => ref13_tag.val h336 (M:=M) w (hE.ext hc) hr_a0_3 hr_a0_5 hr_a0_6)) ?_
         refine DL.pu 143 (.bool (decide (0 < t335))) rfl (p_gtr rfl rfl rfl) ?_
         refine DL.mv 144 (.bool (decide (0 < t335))) rfl rfl rfl ?_
         obtain ⟨q339,h340,h341⟩:=bind_some h337
         refine DL.cut [(1,ptr b1 0),(3,.int .i64 (Der.kind a0)),(6,.bool j6_160),(8,.bool q288),(9,.bool j9_328),(146,.bool q339)] [6,7,8,9,10,11,12,13,14,15,16,17,18,19,20,21,22,23,24,25,26,27,28,29,30,31,32,33,34,35,36,37,38] ?_ (fun J342 => ?_)
         ·
          refine DL.mv 147 (.bool q339) rfl rfl rfl ?_
          obtain ⟨q347,h348,h349⟩:=bind_some h341
          refine DL.cut [(1,ptr b1 0),(3,.int .i64 (Der.kind a0)),(8,.bool q288),(9,.bool j9_328),(149,.bool q347)] [9,10,11,12,13,14,15,16,17,18,19,20,21,22,23,24,25,26,27,28,29,30,31,32,33,34,35,36,37,38] ?_ (fun J350 => ?_)
          ·
           refine DL.mv 150 (.bool q347) rfl rfl rfl ?_
           obtain ⟨q355,h356,h357⟩:=bind_some h349
           refine DL.cut [(1,ptr b1 0),(3,.int .i64 (Der.kind a0)),(9,.bool j9_328),(152,.bool q355)] [12,13,14,15,16,17,18,19,20,21,22,23,24,25,26,27,28,29,30,31,32,33,34,35,36,37,38] ?_ (fun J358 => ?_)
           ·
            refine DL.mv 153 (.bool q355) rfl rfl rfl ?_
            obtain ⟨q363,h364,h365⟩:=bind_some h357
            refine DL.cut [(1,ptr b1 0),(3,.int .i64 (Der.kind a0)),(155,.bool q363)] [15,16,17,18,19,20,21,22,23,24,25,26,27,28,29,30,31,32,33,34,35,36,37,38] ?_ (fun J366 => ?_)
            ·
             refine DL.mv 156 (.bool q363) rfl rfl rfl ?_
             obtain ⟨q371,h372,h373⟩:=bind_some h365
             refine DL.cut [(1,ptr b1 0),(3,.int .i64 (Der.kind a0)),(164,.bool q371)] [24,25,26,27,28,29,30,31,32,33,34,35,36,37,38] ?_ (fun J374 => ?_)
             ·
              refine DL.mv 165 (.bool q371) rfl rfl rfl ?_
              obtain ⟨q387,h388,h389⟩:=bind_some h373
              refine DL.cut [(178,.bool q387)] [38] ?_ (fun J390 => ?_)
              ·
               refine DL.pu 2 (.bool q387) rfl (p_assign rfl rfl) ?_
               refine DL.nil ?_
               obtain rfl:=Option.some.inj h389
               exact retnE (rs:=[.tmp 2]) (vs:=[.bool q387]) hE.base Tryd.func34 rfl rfl rfl (res_cons (ResV.tmp rfl) res_nil) rfl
              ·
               by_cases c391 : q371 = true
               ·
                have h392:=ite_true c391 h388
                refine DL.pure (v:=ptr b1 3) rfl (Wn.yes c391 rfl rfl rfl rfl) rfl rfl rfl (p_fieldAddr ty_f27_3 rfl rfl) ?_
                refine DL.quiet (v:=a0_3) rfl (Wn.yes c391 rfl rfl rfl rfl) rfl rfl rfl (f_load (j:=0) ty_a23 rfl rfl rfl rfl) ?_
                refine DL.pure (v:=.int .i64 ((Der.bytes a0).length : Int)) rfl (Wn.yes c391 rfl rfl rfl rfl) rfl rfl rfl (p_slLen ty_u23 (RowV.sl hr_a0_3) rfl rfl) ?_
                refine DL.pure (v:=.bool (((Der.bytes a0).length : Int) == 0)) rfl (Wn.yes c391 rfl rfl rfl rfl) rfl rfl rfl (p_eql rfl rfl rfl) ?_
                refine DL.pure (v:=.bool (((Der.bytes a0).length : Int) == 0)) rfl (Wn.yes c391 rfl rfl rfl rfl) rfl rfl rfl (p_move rfl rfl) ?_
                obtain ⟨q394,h395,h396⟩:=bind_some h392
                refine DL.cut [(3,.int .i64 (Der.kind a0)),(165,.bool q371),(173,.bool q394)] [33,34,35,36,37,38] ?_ (fun J397 => ?_)
                ·
                 refine DL.pure (v:=.bool q394) rfl (Wn.yes c391 rfl rfl rfl rfl) rfl rfl rfl (p_move rfl rfl) ?_
                 obtain ⟨q402,h403,h404⟩:=bind_some h396
                 refine DL.cut [(165,.bool q371),(177,.bool q402)] [37,38] ?_ (fun J405 => ?_)
                 ·
                  refine DL.pu 178 (.bool q402) rfl (p_pick_t c391 rfl rfl rfl) ?_
                  obtain rfl:=Option.some.inj h404
                  exact DL.weak J390 (Sub.cons rfl (Sub.nil _))
                 ·
                  by_cases c406 : q394 = true
                  ·
                   have h407:=ite_true c406 h403
                   refine DL.not (i:=34) rfl (Wn.yes c406 rfl rfl rfl rfl) rfl rfl ?_
                   refine DL.not (i:=35) rfl (Wn.yes c406 rfl rfl rfl rfl) rfl rfl ?_
                   refine DL.pure (v:=.bool true) rfl (Wn.yes c391 rfl rfl rfl rfl) rfl rfl rfl (p_pick_t c406 rfl rfl rfl) ?_
                   obtain rfl:=Option.some.inj h407
                   exact DL.weak J405 (Sub.cons rfl (Sub.cons rfl (Sub.nil _)))
                  ·
                   replace c406:=Bool.eq_false_iff.mpr c406
                   have h408:=ite_false c406 h403
                   refine DL.pure (v:=.int .i64 (Der.kind a0)) rfl (Wn.no c406 rfl rfl rfl rfl) rfl rfl rfl (p_move rfl rfl) ?_
                   refine DL.pure (v:=.bool ((Der.kind a0) == 4)) rfl (Wn.no c406 rfl rfl rfl rfl) rfl rfl rfl (p_eql rfl rfl rfl) ?_
                   refine DL.pure (v:=.bool ((Der.kind a0) == 4)) rfl (Wn.yes c391 rfl rfl rfl rfl) rfl rfl rfl (p_pick_f c406 rfl rfl rfl) ?_
                   obtain rfl:=Option.some.inj h408
                   exact DL.weak J405 (Sub.cons rfl (Sub.cons rfl (Sub.nil _)))
                ·
                 by_cases c398 : (((Der.bytes a0).length : Int) == 0) = true
                 ·
                  have h399:=ite_true c398 h395
                  refine DL.not (i:=30) rfl (Wn.yes c398 rfl rfl rfl rfl) rfl rfl ?_
                  refine DL.not (i:=31) rfl (Wn.yes c398 rfl rfl rfl rfl) rfl rfl ?_
                  refine DL.pure (v:=.bool true) rfl (Wn.yes c391 rfl rfl rfl rfl) rfl rfl rfl (p_pick_t c398 rfl rfl rfl) ?_
                  obtain rfl:=Option.some.inj h399
                  exact DL.weak J397 (Sub.cons rfl (Sub.cons rfl (Sub.cons rfl (Sub.nil _))))
                 ·
                  replace c398:=Bool.eq_false_iff.mpr c398
                  have h400:=ite_false c398 h395
                  refine DL.pure (v:=.int .i64 (Der.kind a0)) rfl (Wn.no c398 rfl rfl rfl rfl) rfl rfl rfl (p_move rfl rfl) ?_
                  refine DL.pure (v:=.bool ((Der.kind a0) == 3)) rfl (Wn.no c398 rfl rfl rfl rfl) rfl rfl rfl (p_eql rfl rfl rfl) ?_
                  refine DL.pure (v:=.bool ((Der.kind a0) == 3)) rfl (Wn.yes c391 rfl rfl rfl rfl) rfl rfl rfl (p_pick_f c398 rfl rfl rfl) ?_
                  obtain rfl:=Option.some.inj h400
                  exact DL.weak J397 (Sub.cons rfl (Sub.cons rfl (Sub.cons rfl (Sub.nil _))))
               ·
                replace c391:=Bool.eq_false_iff.mpr c391
                have h409:=ite_false c391 h388
                refine DL.not (i:=25) rfl (Wn.no c391 rfl rfl rfl rfl) rfl rfl ?_
                refine DL.not (i:=26) rfl (Wn.no c391 rfl rfl rfl rfl) rfl rfl ?_
                refine DL.not (i:=27) rfl (Wn.no c391 rfl rfl rfl rfl) rfl rfl ?_
                refine DL.not (i:=28) rfl (Wn.no c391 rfl rfl rfl rfl) rfl rfl ?_
                refine DL.not (i:=29) rfl (Wn.no c391 rfl rfl rfl rfl) rfl rfl ?_
                refine DL.not (i:=30) rfl (Wn.undef rfl rfl rfl) rfl rfl ?_
                refine DL.not (i:=31) rfl (Wn.undef rfl rfl rfl) rfl rfl ?_
                refine DL.not (i:=32) rfl (Wn.no c391 rfl rfl rfl rfl) rfl rfl ?_
                refine DL.not (i:=33) rfl (Wn.no c391 rfl rfl rfl rfl) rfl rfl ?_
                refine DL.not (i:=34) rfl (Wn.undef rfl rfl rfl) rfl rfl ?_
                refine DL.not (i:=35) rfl (Wn.undef rfl rfl rfl) rfl rfl ?_
                refine DL.not (i:=36) rfl (Wn.no c391 rfl rfl rfl rfl) rfl rfl ?_
                refine DL.pu 178 (.bool false) rfl (p_pick_f c391 rfl rfl rfl) ?_
                obtain rfl:=Option.some.inj h409
                exact DL.weak J390 (Sub.cons rfl (Sub.nil _))
             ·
              by_cases c375 : q363 = true
              ·
               have h376:=ite_true c375 h372
               refine DL.pure (v:=ptr b1 1) rfl (Wn.yes c375 rfl rfl rfl rfl) rfl rfl rfl (p_fieldAddr ty_f27_1 rfl rfl) ?_
               refine DL.quiet (v:=.bool (Der.flag a0)) rfl (Wn.yes c375 rfl rfl rfl rfl) rfl rfl rfl (f_load (j:=0) ty_a4 rfl rfl rfl rfl) ?_
               refine DL.pure (v:=.bool (!(Der.flag a0))) rfl (Wn.yes c375 rfl rfl rfl rfl) rfl rfl rfl (p_not rfl rfl) ?_
               refine DL.pure (v:=.bool (!(Der.flag a0))) rfl (Wn.yes c375 rfl rfl rfl rfl) rfl rfl rfl (p_move rfl rfl) ?_
               obtain ⟨q378,h379,h380⟩:=bind_some h376
               refine DL.cut [(1,ptr b1 0),(3,.int .i64 (Der.kind a0)),(156,.bool q363),(163,.bool q378)] [23,24,25,26,27,28,29,30,31,32,33,34,35,36,37,38] ?_ (fun J381 => ?_)
               ·
                refine DL.pu 164 (.bool q378) rfl (p_pick_t c375 rfl rfl rfl) ?_
                obtain rfl:=Option.some.inj h380
                exact DL.weak J374 (Sub.cons rfl (Sub.cons rfl (Sub.cons rfl (Sub.nil _))))
               ·
                by_cases c382 : (!(Der.flag a0)) = true
                ·
                 have h383:=ite_true c382 h379
                 refine DL.not (i:=20) rfl (Wn.yes c382 rfl rfl rfl rfl) rfl rfl ?_
                 refine DL.not (i:=21) rfl (Wn.yes c382 rfl rfl rfl rfl) rfl rfl ?_
                 refine DL.pure (v:=.bool true) rfl (Wn.yes c375 rfl rfl rfl rfl) rfl rfl rfl (p_pick_t c382 rfl rfl rfl) ?_
                 obtain rfl:=Option.some.inj h383
                 exact DL.weak J381 (Sub.cons rfl (Sub.cons rfl (Sub.cons rfl (Sub.cons rfl (Sub.nil _)))))
                ·
                 replace c382:=Bool.eq_false_iff.mpr c382
                 have h384:=ite_false c382 h379
                 refine DL.pure (v:=.int .i64 (Der.kind a0)) rfl (Wn.no c382 rfl rfl rfl rfl) rfl rfl rfl (p_move rfl rfl) ?_
                 refine DL.pure (v:=.bool ((Der.kind a0) == 1)) rfl (Wn.no c382 rfl rfl rfl rfl) rfl rfl rfl (p_eql rfl rfl rfl) ?_
                 refine DL.pure (v:=.bool ((Der.kind a0) == 1)) rfl (Wn.yes c375 rfl rfl rfl rfl) rfl rfl rfl (p_pick_f c382 rfl rfl rfl) ?_
                 obtain rfl:=Option.some.inj h384
                 exact DL.weak J381 (Sub.cons rfl (Sub.cons rfl (Sub.cons rfl (Sub.cons rfl (Sub.nil _)))))
              ·
               replace c375:=Bool.eq_false_iff.mpr c375
               have h385:=ite_false c375 h372
               refine DL.not (i:=16) rfl (Wn.no c375 rfl rfl rfl rfl) rfl rfl ?_
               refine DL.not (i:=17) rfl (Wn.no c375 rfl rfl rfl rfl) rfl rfl ?_
               refine DL.not (i:=18) rfl (Wn.no c375 rfl rfl rfl rfl) rfl rfl ?_
               refine DL.not (i:=19) rfl (Wn.no c375 rfl rfl rfl rfl) rfl rfl ?_
               refine DL.not (i:=20) rfl (Wn.undef rfl rfl rfl) rfl rfl ?_
               refine DL.not (i:=21) rfl (Wn.undef rfl rfl rfl) rfl rfl ?_
               refine DL.not (i:=22) rfl (Wn.no c375 rfl rfl rfl rfl) rfl rfl ?_
               refine DL.pu 164 (.bool false) rfl (p_pick_f c375 rfl rfl rfl) ?_
               obtain rfl:=Option.some.inj h385
               exact DL.weak J374 (Sub.cons rfl (Sub.cons rfl (Sub.cons rfl (Sub.nil _))))
            ·
             by_cases c367 : q355 = true
             ·
              have h368:=ite_true c367 h364
              refine DL.pure (v:=.bool j9_328) rfl (Wn.yes c367 rfl rfl rfl rfl) rfl rfl rfl (p_move rfl rfl) ?_
              refine DL.pu 155 (.bool j9_328) rfl (p_pick_t c367 rfl rfl rfl) ?_
              obtain rfl:=Option.some.inj h368
              exact DL.weak J366 (Sub.cons rfl (Sub.cons rfl (Sub.cons rfl (Sub.nil _))))
             ·
              replace c367:=Bool.eq_false_iff.mpr c367
              have h369:=ite_false c367 h364
              refine DL.not (i:=13) rfl (Wn.no c367 rfl rfl rfl rfl) rfl rfl ?_
              refine DL.pu 155 (.bool false) rfl (p_pick_f c367 rfl rfl rfl) ?_
              obtain rfl:=Option.some.inj h369
              exact DL.weak J366 (Sub.cons rfl (Sub.cons rfl (Sub.cons rfl (Sub.nil _))))
           ·
            by_cases c359 : q347 = true
            ·
             have h360:=ite_true c359 h356
             refine DL.pure (v:=.bool q288) rfl (Wn.yes c359 rfl rfl rfl rfl) rfl rfl rfl (p_move rfl rfl) ?_
             refine DL.pu 152 (.bool q288) rfl (p_pick_t c359 rfl rfl rfl) ?_
             obtain rfl:=Option.some.inj h360
             exact DL.weak J358 (Sub.cons rfl (Sub.cons rfl (Sub.cons rfl (Sub.cons rfl (Sub.nil _)))))
            ·
             replace c359:=Bool.eq_false_iff.mpr c359
             have h361:=ite_false c359 h356
             refine DL.not (i:=10) rfl (Wn.no c359 rfl rfl rfl rfl) rfl rfl ?_
             refine DL.pu 152 (.bool false) rfl (p_pick_f c359 rfl rfl rfl) ?_
             obtain rfl:=Option.some.inj h361
             exact DL.weak J358 (Sub.cons rfl (Sub.cons rfl (Sub.cons rfl (Sub.cons rfl (Sub.nil _)))))
          ·
           by_cases c351 : q339 = true
           ·
            have h352:=ite_true c351 h348
            refine DL.pure (v:=.bool j6_160) rfl (Wn.yes c351 rfl rfl rfl rfl) rfl rfl rfl (p_move rfl rfl) ?_
            refine DL.pu 149 (.bool j6_160) rfl (p_pick_t c351 rfl rfl rfl) ?_
            obtain rfl:=Option.some.inj h352
            exact DL.weak J350 (Sub.cons rfl (Sub.cons rfl (Sub.cons rfl (Sub.cons rfl (Sub.cons rfl (Sub.nil _))))))
           ·
            replace c351:=Bool.eq_false_iff.mpr c351
            have h353:=ite_false c351 h348
            refine DL.not (i:=7) rfl (Wn.no c351 rfl rfl rfl rfl) rfl rfl ?_
            refine DL.pu 149 (.bool false) rfl (p_pick_f c351 rfl rfl rfl) ?_
            obtain rfl:=Option.some.inj h353
            exact DL.weak J350 (Sub.cons rfl (Sub.cons rfl (Sub.cons rfl (Sub.cons rfl (Sub.cons rfl (Sub.nil _))))))
         ·
          by_cases c343 : (decide (0 < t335)) = true
          ·
           have h344:=ite_true c343 h340
           refine DL.pure (v:=.bool j4_3) rfl (Wn.yes c343 rfl rfl rfl rfl) rfl rfl rfl (p_move rfl rfl) ?_
           refine DL.pu 146 (.bool j4_3) rfl (p_pick_t c343 rfl rfl rfl) ?_
           obtain rfl:=Option.some.inj h344
           exact DL.weak J342 (Sub.cons rfl (Sub.cons rfl (Sub.cons rfl (Sub.cons rfl (Sub.cons rfl (Sub.cons rfl (Sub.nil _)))))))
          ·
           replace c343:=Bool.eq_false_iff.mpr c343
           have h345:=ite_false c343 h340
           refine DL.not (i:=4) rfl (Wn.no c343 rfl rfl rfl rfl) rfl rfl ?_
           refine DL.pu 146 (.bool false) rfl (p_pick_f c343 rfl rfl rfl) ?_
           obtain rfl:=Option.some.inj h345
           exact DL.weak J342 (Sub.cons rfl (Sub.cons rfl (Sub.cons rfl (Sub.cons rfl (Sub.cons rfl (Sub.cons rfl (Sub.nil _)))))))
        by_cases c327 : q320 = true
        ·
         have h333:=ite_true c327 h329
         refine TT.cond_true (x:=sub [1,1,1,1,1,1,1,1,1,1,0,1,0] B34) (y:=sub [1,1,1,1,1,1,1,1,1,1,0,1,1] B34) rfl c327 ?_
         refine TT.rg [0,1,2,3,4] [kp,kq,kp,kp,kp] rfl rfl ?_
         refine DL.pu 137 (ptr b1 6) rfl (p_fieldAddr ty_f27_6 rfl rfl) ?_
         refine DL.qu 138 (a0_6) rfl (f_load (j:=0) ty_a25 rfl rfl rfl rfl) ?_
         refine DL.pu 139 (.int .i64 ((Tree.kids a0).length : Int)) rfl (p_slLen ty_u25 (RowS.sl hr_a0_6) rfl rfl) ?_
         refine DL.pu 140 (.bool (((Tree.kids a0).length : Int) == 1)) rfl (p_eql rfl rfl rfl) ?_
         refine DL.pu 9 (.bool (((Tree.kids a0).length : Int) == 1)) rfl (p_assign rfl rfl) ?_
         refine DL.nil ?_
         obtain rfl:=Option.some.inj h333
         exact TT.weak (J331 ) (Sub.cons rfl (Sub.cons rfl (Sub.cons rfl (Sub.cons rfl (Sub.cons rfl (Sub.cons rfl (Sub.nil _)))))))
        ·
         replace c327:=Bool.eq_false_iff.mpr c327
         have h334:=ite_false c327 h329
         refine TT.cond_false (x:=sub [1,1,1,1,1,1,1,1,1,1,0,1,0] B34) (y:=sub [1,1,1,1,1,1,1,1,1,1,0,1,1] B34) rfl c327 ?_
         refine TT.skip ?_
         obtain rfl:=Option.some.inj h334
         exact TT.weak (J331 ) (Sub.cons rfl (Sub.cons rfl (Sub.cons rfl (Sub.cons rfl (Sub.cons rfl (Sub.cons rfl (Sub.nil _)))))))
       ·
        by_cases c324 : ((Der.kind a0) == 9) = true
        ·
         have h325:=ite_true c324 h321
         refine DL.not (i:=3) rfl (Wn.yes c324 rfl rfl rfl rfl) rfl rfl ?_
         refine DL.not (i:=4) rfl (Wn.yes c324 rfl rfl rfl rfl) rfl rfl ?_
         refine DL.pu 136 (.bool true) rfl (p_pick_t c324 rfl rfl rfl) ?_
         obtain rfl:=Option.some.inj h325
         exact DL.weak J323 (Sub.cons rfl (Sub.cons rfl (Sub.cons rfl (Sub.cons rfl (Sub.cons rfl (Sub.cons rfl (Sub.cons rfl (Sub.nil _))))))))
        ·
         replace c324:=Bool.eq_false_iff.mpr c324
         have h326:=ite_false c324 h321
         refine DL.pure (v:=.int .i64 (Der.kind a0)) rfl (Wn.no c324 rfl rfl rfl rfl) rfl rfl rfl (p_move rfl rfl) ?_
         refine DL.pure (v:=.bool ((Der.kind a0) == 8)) rfl (Wn.no c324 rfl rfl rfl rfl) rfl rfl rfl (p_eql rfl rfl rfl) ?_
         refine DL.pu 136 (.bool ((Der.kind a0) == 8)) rfl (p_pick_f c324 rfl rfl rfl) ?_
         obtain rfl:=Option.some.inj h326
         exact DL.weak J323 (Sub.cons rfl (Sub.cons rfl (Sub.cons rfl (Sub.cons rfl (Sub.cons rfl (Sub.cons rfl (Sub.cons rfl (Sub.nil _))))))))
      by_cases c311 : ((Der.kind a0) == 7) = true
      ·
       have h317:=ite_true c311 h313
       refine TT.cond_true (x:=sub [1,1,1,1,1,1,1,1,1,0,1,0] B34) (y:=sub [1,1,1,1,1,1,1,1,1,0,1,1] B34) rfl c311 ?_
       refine TT.rg [0] [kp] rfl rfl ?_
       refine DL.pu 9 (.bool true) rfl (p_assign rfl rfl) ?_
       refine DL.nil ?_
       obtain rfl:=Option.some.inj h317
       exact TT.weak (J315 ) (Sub.cons rfl (Sub.cons rfl (Sub.cons rfl (Sub.cons rfl (Sub.cons rfl (Sub.cons rfl (Sub.nil _)))))))
      ·
       replace c311:=Bool.eq_false_iff.mpr c311
       have h318:=ite_false c311 h313
       refine TT.cond_false (x:=sub [1,1,1,1,1,1,1,1,1,0,1,0] B34) (y:=sub [1,1,1,1,1,1,1,1,1,0,1,1] B34) rfl c311 ?_
       refine TT.skip ?_
       obtain rfl:=Option.some.inj h318
       exact TT.weak (J315 ) (Sub.cons rfl (Sub.cons rfl (Sub.cons rfl (Sub.cons rfl (Sub.cons rfl (Sub.cons rfl (Sub.nil _)))))))
     ·
      by_cases c292 : q280 = true
      ·
       have h293:=ite_true c292 h289
       refine DL.not (i:=8) rfl (Wn.yes c292 rfl rfl rfl rfl) rfl rfl ?_
       refine DL.not (i:=9) rfl (Wn.yes c292 rfl rfl rfl rfl) rfl rfl ?_
       refine DL.not (i:=10) rfl (Wn.yes c292 rfl rfl rfl rfl) rfl rfl ?_
       refine DL.not (i:=11) rfl (Wn.undef rfl rfl rfl) rfl rfl ?_
       refine DL.not (i:=12) rfl (Wn.undef rfl rfl rfl) rfl rfl ?_
       refine DL.not (i:=13) rfl (Wn.undef rfl rfl rfl) rfl rfl ?_
       refine DL.not (i:=14) rfl (Wn.yes c292 rfl rfl rfl rfl) rfl rfl ?_
       refine DL.not (i:=15) rfl (Wn.yes c292 rfl rfl rfl rfl) rfl rfl ?_
       refine DL.not (i:=16) rfl (Wn.undef rfl rfl rfl) rfl rfl ?_
       refine DL.not (i:=17) rfl (Wn.undef rfl rfl rfl) rfl rfl ?_
       refine DL.not (i:=18) rfl (Wn.undef rfl rfl rfl) rfl rfl ?_
       refine DL.not (i:=19) rfl (Wn.yes c292 rfl rfl rfl rfl) rfl rfl ?_
       refine DL.pu 124 (.bool true) rfl (p_pick_t c292 rfl rfl rfl) ?_
       obtain rfl:=Option.some.inj h293
       exact DL.weak J291 (Sub.cons rfl (Sub.cons rfl (Sub.cons rfl (Sub.cons rfl (Sub.cons rfl (Sub.nil _))))))
      ·
       replace c292:=Bool.eq_false_iff.mpr c292
       have h294:=ite_false c292 h289
       refine DL.pure (v:=.int .i64 (Der.kind a0)) rfl (Wn.no c292 rfl rfl rfl rfl) rfl rfl rfl (p_move rfl rfl) ?_
       refine DL.pure (v:=.bool ((Der.kind a0) == 8)) rfl (Wn.no c292 rfl rfl rfl rfl) rfl rfl rfl (p_eql rfl rfl rfl) ?_
       refine DL.pure (v:=.bool ((Der.kind a0) == 8)) rfl (Wn.no c292 rfl rfl rfl rfl) rfl rfl rfl (p_move rfl rfl) ?_
       obtain ⟨q296,h297,h298⟩:=bind_some h294
       refine DL.cut [(1,ptr b1 0),(3,.int .i64 (Der.kind a0)),(4,.bool j4_3),(6,.bool j6_160),(111,.bool q280),(118,.bool q296)] [15,16,17,18,19,20,21] ?_ (fun J299 => ?_)
       ·
        refine DL.pure (v:=.bool q296) rfl (Wn.no c292 rfl rfl rfl rfl) rfl rfl rfl (p_move rfl rfl) ?_
        obtain ⟨q304,h305,h306⟩:=bind_some h298
        refine DL.cut [(1,ptr b1 0),(3,.int .i64 (Der.kind a0)),(4,.bool j4_3),(6,.bool j6_160),(111,.bool q280),(123,.bool q304)] [20,21] ?_ (fun J307 => ?_)
        ·
         refine DL.pu 124 (.bool q304) rfl (p_pick_f c292 rfl rfl rfl) ?_
         obtain rfl:=Option.some.inj h306
         exact DL.weak J291 (Sub.cons rfl (Sub.cons rfl (Sub.cons rfl (Sub.cons rfl (Sub.cons rfl (Sub.nil _))))))
        ·
         by_cases c308 : q296 = true
         ·
          have h309:=ite_true c308 h305
          refine DL.pure (v:=ptr b1 2) rfl (Wn.yes c308 rfl rfl rfl rfl) rfl rfl rfl (p_fieldAddr ty_f27_2 rfl rfl) ?_
          refine DL.quiet (v:=.int .i64 (Der.num a0)) rfl (Wn.yes c308 rfl rfl rfl rfl) rfl rfl rfl (f_load (j:=0) ty_a2 rfl rfl rfl rfl) ?_
          refine DL.pure (v:=.bool (decide ((Der.num a0) ≤ 30))) rfl (Wn.yes c308 rfl rfl rfl rfl) rfl rfl rfl (p_leq rfl rfl rfl) ?_
          refine DL.pure (v:=.bool (decide ((Der.num a0) ≤ 30))) rfl (Wn.no c292 rfl rfl rfl rfl) rfl rfl rfl (p_pick_t c308 rfl rfl rfl) ?_
          obtain rfl:=Option.some.inj h309
          exact DL.weak J307 (Sub.cons rfl (Sub.cons rfl (Sub.cons rfl (Sub.cons rfl (Sub.cons rfl (Sub.cons rfl (Sub.nil _)))))))
         ·
          replace c308:=Bool.eq_false_iff.mpr c308
          have h310:=ite_false c308 h305
          refine DL.not (i:=16) rfl (Wn.no c308 rfl rfl rfl rfl) rfl rfl ?_
          refine DL.not (i:=17) rfl (Wn.no c308 rfl rfl rfl rfl) rfl rfl ?_
          refine DL.not (i:=18) rfl (Wn.no c308 rfl rfl rfl rfl) rfl rfl ?_
          refine DL.pure (v:=.bool false) rfl (Wn.no c292 rfl rfl rfl rfl) rfl rfl rfl (p_pick_f c308 rfl rfl rfl) ?_
          obtain rfl:=Option.some.inj h310
          exact DL.weak J307 (Sub.cons rfl (Sub.cons rfl (Sub.cons rfl (Sub.cons rfl (Sub.cons rfl (Sub.cons rfl (Sub.nil _)))))))
       ·
        by_cases c300 : ((Der.kind a0) == 8) = true
        ·
         have h301:=ite_true c300 h297
         refine DL.pure (v:=ptr b1 2) rfl (Wn.yes c300 rfl rfl rfl rfl) rfl rfl rfl (p_fieldAddr ty_f27_2 rfl rfl) ?_
         refine DL.quiet (v:=.int .i64 (Der.num a0)) rfl (Wn.yes c300 rfl rfl rfl rfl) rfl rfl rfl (f_load (j:=0) ty_a2 rfl rfl rfl rfl) ?_
         refine DL.pure (v:=.bool (decide (0 ≤ (Der.num a0)))) rfl (Wn.yes c300 rfl rfl rfl rfl) rfl rfl rfl (p_geq rfl rfl rfl) ?_
         refine DL.pure (v:=.bool (decide (0 ≤ (Der.num a0)))) rfl (Wn.no c292 rfl rfl rfl rfl) rfl rfl rfl (p_pick_t c300 rfl rfl rfl) ?_
         obtain rfl:=Option.some.inj h301
         exact DL.weak J299 (Sub.cons rfl (Sub.cons rfl (Sub.cons rfl (Sub.cons rfl (Sub.cons rfl (Sub.cons rfl (Sub.nil _)))))))
        ·
         replace c300:=Bool.eq_false_iff.mpr c300
         have h302:=ite_false c300 h297
         refine DL.not (i:=11) rfl (Wn.no c300 rfl rfl rfl rfl) rfl rfl ?_
         refine DL.not (i:=12) rfl (Wn.no c300 rfl rfl rfl rfl) rfl rfl ?_
         refine DL.not (i:=13) rfl (Wn.no c300 rfl rfl rfl rfl) rfl rfl ?_
         refine DL.pure (v:=.bool false) rfl (Wn.no c292 rfl rfl rfl rfl) rfl rfl rfl (p_pick_f c300 rfl rfl rfl) ?_
         obtain rfl:=Option.some.inj h302
         exact DL.weak J299 (Sub.cons rfl (Sub.cons rfl (Sub.cons rfl (Sub.cons rfl (Sub.cons rfl (Sub.cons rfl (Sub.nil _)))))))
    ·
     by_cases c284 : ((Der.num a0) == 0) = true
     ·
      have h285:=ite_true c284 h281
      refine DL.not (i:=4) rfl (Wn.yes c284 rfl rfl rfl rfl) rfl rfl ?_
      refine DL.not (i:=5) rfl (Wn.yes c284 rfl rfl rfl rfl) rfl rfl ?_
      refine DL.pu 110 (.bool true) rfl (p_pick_t c284 rfl rfl rfl) ?_
      obtain rfl:=Option.some.inj h285
      exact DL.weak J283 (Sub.cons rfl (Sub.cons rfl (Sub.cons rfl (Sub.cons rfl (Sub.cons rfl (Sub.nil _))))))
     ·
      replace c284:=Bool.eq_false_iff.mpr c284
      have h286:=ite_false c284 h281
      refine DL.pure (v:=.int .i64 (Der.kind a0)) rfl (Wn.no c284 rfl rfl rfl rfl) rfl rfl rfl (p_move rfl rfl) ?_
      refine DL.pure (v:=.bool ((Der.kind a0) == 2)) rfl (Wn.no c284 rfl rfl rfl rfl) rfl rfl rfl (p_eql rfl rfl rfl) ?_
      refine DL.pu 110 (.bool ((Der.kind a0) == 2)) rfl (p_pick_f c284 rfl rfl rfl) ?_
      obtain rfl:=Option.some.inj h286
      exact DL.weak J283 (Sub.cons rfl (Sub.cons rfl (Sub.cons rfl (Sub.cons rfl (Sub.cons rfl (Sub.nil _))))))
   by_cases c159 : ((Der.kind a0) == 10) = true
   ·
    have h165:=ite_true c159 h161
    refine TT.cond_true (x:=sub [1,1,1,1,1,1,0,1,0] B34) (y:=sub [1,1,1,1,1,1,0,1,1] B34) rfl c159 ?_
    refine TT.seq (x:=sub [1,1,1,1,1,1,0,1,0,0] B34) (y:=sub [1,1,1,1,1,1,0,1,0,1] B34) ?_
    refine TT.rg [0,1,2,3,4,5,6,7,8,9,10] [kp,kq,kp,kp,kp,kp,kq,kp,kp,kp,kp] rfl rfl ?_
    refine DL.pu 75 (ptr b1 4) rfl (p_fieldAddr ty_f27_4 rfl rfl) ?_
    refine DL.qu 76 (str (Der.text a0)) rfl (f_load (j:=0) ty_a9 rfl rfl rfl rfl) ?_
    refine DL.pu 77 (.int .i64 ((Der.text a0).length : Int)) rfl (p_strLen ty_u9 rfl rfl) ?_
    refine DL.pu 78 (.bool (((Der.text a0).length : Int) == 15)) rfl (p_eql rfl rfl rfl) ?_
    refine DL.mv 79 (.bool (((Der.text a0).length : Int) == 15)) rfl rfl rfl ?_
    obtain ⟨q167,h168,h169⟩:=bind_some h165
    refine DL.cut [(1,ptr b1 0),(3,.int .i64 (Der.kind a0)),(4,.bool j4_3),(84,.bool q167)] [10] ?_ (fun J170 => ?_)
    ·
     refine DL.pu 6 (.bool q167) rfl (p_assign rfl rfl) ?_
     refine DL.nil ?_
     refine TT.seq (x:=sub [1,1,1,1,1,1,0,1,0,1,0] B34) (y:=sub [1,1,1,1,1,1,0,1,0,1,1] B34) ?_
     refine TT.rg [0] [kp] rfl rfl ?_
     refine DL.pu 7 (.int .i64 0) rfl (p_assign rfl rfl) ?_
     refine DL.nil ?_
     refine TT.block (c:=sub [1,1,1,1,1,1,0,1,0,1,1,0] B34) ?_
     refine TT.loop (c:=sub [1,1,1,1,1,1,0,1,0,1,1,0,0] B34) ?_
     obtain ⟨z6_251,h275,h276⟩:=bind_some h169
     refine TT.weak (ref13_own.L1_ok a0 a0_3 a0_5 a0_6 b1 j4_3 hE ((14 : Int).toNat + 1) q167 0 z6_251 h275 ( ?_)) (Sub.cons rfl (Sub.cons rfl (Sub.cons rfl (Sub.cons rfl (Sub.cons rfl (Sub.nil _))))))
     obtain rfl:=Option.some.inj h276
     exact TT.weak (J163 ) (Sub.cons rfl (Sub.cons rfl (Sub.cons rfl (Sub.cons rfl (Sub.nil _)))))
    ·
     by_cases c171 : (((Der.text a0).length : Int) == 15) = true
     ·
      have h172:=ite_true c171 h168
      refine DL.pure (v:=ptr b1 4) rfl (Wn.yes c171 rfl rfl rfl rfl) rfl rfl rfl (p_fieldAddr ty_f27_4 rfl rfl) ?_
      refine DL.quiet (v:=str (Der.text a0)) rfl (Wn.yes c171 rfl rfl rfl rfl) rfl rfl rfl (f_load (j:=0) ty_a9 rfl rfl rfl rfl) ?_
      obtain ⟨g173,h174⟩:=req_some h172
      refine DL.pure (v:=.int .u8 (chr (Der.text a0) (14 : Int).toNat)) rfl (Wn.yes c171 rfl rfl rfl rfl) rfl rfl rfl (p_strIndex ty_u9 (by decide) g173 rfl rfl rfl) ?_
      refine DL.pure (v:=.bool ((chr (Der.text a0) (14 : Int).toNat) == 90)) rfl (Wn.yes c171 rfl rfl rfl rfl) rfl rfl rfl (p_eql rfl rfl rfl) ?_
      refine DL.pu 84 (.bool ((chr (Der.text a0) (14 : Int).toNat) == 90)) rfl (p_pick_t c171 rfl rfl rfl) ?_
      obtain rfl:=Option.some.inj h174
      exact DL.weak J170 (Sub.cons rfl (Sub.cons rfl (Sub.cons rfl (Sub.cons rfl (Sub.nil _)))))
     ·
      replace c171:=Bool.eq_false_iff.mpr c171
      have h175:=ite_false c171 h168
      refine DL.not (i:=5) rfl (Wn.no c171 rfl rfl rfl rfl) rfl rfl ?_
      refine DL.not (i:=6) rfl (Wn.no c171 rfl rfl rfl rfl) rfl rfl ?_
      refine DL.not (i:=7) rfl (Wn.no c171 rfl rfl rfl rfl) rfl rfl ?_
      refine DL.not (i:=8) rfl (Wn.no c171 rfl rfl rfl rfl) rfl rfl ?_
      refine DL.pu 84 (.bool false) rfl (p_pick_f c171 rfl rfl rfl) ?_
      obtain rfl:=Option.some.inj h175
      exact DL.weak J170 (Sub.cons rfl (Sub.cons rfl (Sub.cons rfl (Sub.cons rfl (Sub.nil _)))))
   ·
    replace c159:=Bool.eq_false_iff.mpr c159
    have h278:=ite_false c159 h161
    refine TT.cond_false (x:=sub [1,1,1,1,1,1,0,1,0] B34) (y:=sub [1,1,1,1,1,1,0,1,1] B34) rfl c159 ?_
    refine TT.skip ?_
    obtain rfl:=Option.some.inj h278
    exact TT.weak (J163 ) (Sub.cons rfl (Sub.cons rfl (Sub.cons rfl (Sub.cons rfl (Sub.nil _)))))
  by_cases c146 : ((Der.kind a0) == 6) = true
  ·
   have h152:=ite_true c146 h148
   refine TT.cond_true (x:=sub [1,1,1,1,1,0,1,0] B34) (y:=sub [1,1,1,1,1,0,1,1] B34) rfl c146 ?_
   refine TT.rg [0,1,2,3] [kp,kq,kq,kp] rfl rfl ?_
   refine DL.pu 70 (ptr b1 4) rfl (p_fieldAddr ty_f27_4 rfl rfl) ?_
   refine DL.qu 71 (str (Der.text a0)) rfl (f_load (j:=0) ty_a9 rfl rfl rfl rfl) ?_
   obtain ⟨g153,h154⟩:=req_some h152
   obtain ⟨t155,e156,h157⟩:=nm_some h154
   refine DL.qu 72 (.bool t155) rfl (by rw [e156]; exact f_callR rfl rfl (args_val (vs:=[str (Der.text a0)]) rfl) (fun w => enter49 _ w) (fun w hc => valid_ok hG _ g153 w (hE.ext hc))) ?_
   refine DL.pu 6 (.bool t155) rfl (p_assign rfl rfl) ?_
   refine DL.nil ?_
   obtain rfl:=Option.some.inj h157
   exact TT.weak (J150 ) (Sub.cons rfl (Sub.cons rfl (Sub.cons rfl (Sub.cons rfl (Sub.nil _)))))
  ·
   replace c146:=Bool.eq_false_iff.mpr c146
   have h158:=ite_false c146 h148
   refine TT.cond_false (x:=sub [1,1,1,1,1,0,1,0] B34) (y:=sub [1,1,1,1,1,0,1,1] B34) rfl c146 ?_
   refine TT.skip ?_
   obtain rfl:=Option.some.inj h158
   exact TT.weak (J150 ) (Sub.cons rfl (Sub.cons rfl (Sub.cons rfl (Sub.cons rfl (Sub.nil _)))))
 by_cases c2 : ((Der.kind a0) == 5) = true
 ·
  have h8:=ite_true c2 h4
  refine TT.cond_true (x:=sub [1,1,1,0,1,0] B34) (y:=sub [1,1,1,0,1,1] B34) rfl c2 ?_
  refine TT.seq (x:=sub [1,1,1,0,1,0,0] B34) (y:=sub [1,1,1,0,1,0,1] B34) ?_
  refine TT.rg [0,1,2,3,4,5,6,7,8,9,10,11,12,13,14,15,16,17,18,19,20,21,22,23,24,25,26,27,28,29,30,31] [kp,kq,kp,kp,kp,kp,kq,kp,kp,kp,kp,kp,kq,kp,kq,kp,kp,kp,kp,kq,kp,kq,kp,kp,kp,kq,kp,kq,kp,kp,kp,kp] rfl rfl ?_
  refine DL.pu 18 (ptr b1 5) rfl (p_fieldAddr ty_f27_5 rfl rfl) ?_
  refine DL.qu 19 (a0_5) rfl (f_load (j:=0) ty_a24 rfl rfl rfl rfl) ?_
  refine DL.pu 20 (.int .i64 ((Der.arcs a0).length : Int)) rfl (p_slLen ty_u24 (RowV.sl hr_a0_5) rfl rfl) ?_
  refine DL.pu 21 (.bool (decide (2 ≤ ((Der.arcs a0).length : Int)))) rfl (p_geq rfl rfl rfl) ?_
  refine DL.mv 22 (.bool (decide (2 ≤ ((Der.arcs a0).length : Int)))) rfl rfl rfl ?_
  obtain ⟨q10,h11,h12⟩:=bind_some h8
  refine DL.cut [(1,ptr b1 0),(3,.int .i64 (Der.kind a0)),(27,.bool q10)] [10,11,12,13,14,15,16,17,18,19,20,21,22,23,24,25,26,27,28,29,30,31] ?_ (fun J13 => ?_)
  ·
   refine DL.mv 28 (.bool q10) rfl rfl rfl ?_
   obtain ⟨q18,h19,h20⟩:=bind_some h12
   refine DL.cut [(1,ptr b1 0),(3,.int .i64 (Der.kind a0)),(34,.bool q18)] [17,18,19,20,21,22,23,24,25,26,27,28,29,30,31] ?_ (fun J21 => ?_)
   ·
    refine DL.mv 35 (.bool q18) rfl rfl rfl ?_
    obtain ⟨q31,h32,h33⟩:=bind_some h20
    refine DL.cut [(1,ptr b1 0),(3,.int .i64 (Der.kind a0)),(48,.bool q31)] [31] ?_ (fun J34 => ?_)
    ·
     refine DL.pu 4 (.bool q31) rfl (p_assign rfl rfl) ?_
     refine DL.nil ?_
     refine TT.seq (x:=sub [1,1,1,0,1,0,1,0] B34) (y:=sub [1,1,1,0,1,0,1,1] B34) ?_
     refine TT.rg [0] [kp] rfl rfl ?_
     refine DL.pu 5 (.int .i64 0) rfl (p_assign rfl rfl) ?_
     refine DL.nil ?_
     refine TT.block (c:=sub [1,1,1,0,1,0,1,1,0] B34) ?_
     refine TT.loop (c:=sub [1,1,1,0,1,0,1,1,0,0] B34) ?_
     obtain ⟨z4_123,h142,h143⟩:=bind_some h33
     refine TT.weak (ref13_own.L0_ok a0 a0_3 a0_5 a0_6 b1 hE hr_a0_5 (((Der.arcs a0).length : Int).toNat + 1) q31 0 z4_123 h142 ( ?_)) (Sub.cons rfl (Sub.cons rfl (Sub.cons rfl (Sub.cons rfl (Sub.nil _)))))
     obtain rfl:=Option.some.inj h143
     exact TT.weak (J6 ) (Sub.cons rfl (Sub.cons rfl (Sub.cons rfl (Sub.nil _))))
    ·
     by_cases c35 : q18 = true
     ·
      have h36:=ite_true c35 h32
      refine DL.pure (v:=ptr b1 5) rfl (Wn.yes c35 rfl rfl rfl rfl) rfl rfl rfl (p_fieldAddr ty_f27_5 rfl rfl) ?_
      refine DL.quiet (v:=a0_5) rfl (Wn.yes c35 rfl rfl rfl rfl) rfl rfl rfl (f_load (j:=0) ty_a24 rfl rfl rfl rfl) ?_
      obtain ⟨g37,h38⟩:=req_some h36
      refine DL.pure (v:=elp a0_5 ((0 : Int).toNat)) rfl (Wn.yes c35 rfl rfl rfl rfl) rfl rfl rfl (p_slIx1 ty_u24 ty_s50 (RowV.some hr_a0_5 (by decide) g37) (by decide) g37 rfl rfl rfl) ?_
      refine DL.quiet (v:=.int .u64 ((Der.arcs a0).getD ((0 : Int).toNat) 0)) rfl (Wn.yes c35 rfl rfl rfl rfl) rfl rfl rfl (q_loadEl (fun w hc => hE.imm hc) hr_a0_5 (encl_get .u64 (lt_len (by decide) g37)) ty_a50 rfl rfl) ?_
      refine DL.pure (v:=.bool (((Der.arcs a0).getD ((0 : Int).toNat) 0) == 2)) rfl (Wn.yes c35 rfl rfl rfl rfl) rfl rfl rfl (p_eql rfl rfl rfl) ?_
      refine DL.pure (v:=.bool (((Der.arcs a0).getD ((0 : Int).toNat) 0) == 2)) rfl (Wn.yes c35 rfl rfl rfl rfl) rfl rfl rfl (p_move rfl rfl) ?_
      obtain ⟨q40,h41,h42⟩:=bind_some h38
      refine DL.cut [(1,ptr b1 0),(3,.int .i64 (Der.kind a0)),(35,.bool q18),(47,.bool q40)] [30,31] ?_ (fun J43 => ?_)
      ·
       refine DL.pu 48 (.bool q40) rfl (p_pick_t c35 rfl rfl rfl) ?_
       obtain rfl:=Option.some.inj h42
       exact DL.weak J34 (Sub.cons rfl (Sub.cons rfl (Sub.cons rfl (Sub.nil _))))
      ·
       by_cases c44 : (((Der.arcs a0).getD ((0 : Int).toNat) 0) == 2) = true
       ·
        have h45:=ite_true c44 h41
        refine DL.not (i:=24) rfl (Wn.yes c44 rfl rfl rfl rfl) rfl rfl ?_
        refine DL.not (i:=25) rfl (Wn.yes c44 rfl rfl rfl rfl) rfl rfl ?_
        refine DL.not (i:=26) rfl (Wn.yes c44 rfl rfl rfl rfl) rfl rfl ?_
        refine DL.not (i:=27) rfl (Wn.yes c44 rfl rfl rfl rfl) rfl rfl ?_
        refine DL.not (i:=28) rfl (Wn.yes c44 rfl rfl rfl rfl) rfl rfl ?_
        refine DL.pure (v:=.bool true) rfl (Wn.yes c35 rfl rfl rfl rfl) rfl rfl rfl (p_pick_t c44 rfl rfl rfl) ?_
        obtain rfl:=Option.some.inj h45
        exact DL.weak J43 (Sub.cons rfl (Sub.cons rfl (Sub.cons rfl (Sub.cons rfl (Sub.nil _)))))
       ·
        replace c44:=Bool.eq_false_iff.mpr c44
        have h46:=ite_false c44 h41
        refine DL.pure (v:=ptr b1 5) rfl (Wn.no c44 rfl rfl rfl rfl) rfl rfl rfl (p_fieldAddr ty_f27_5 rfl rfl) ?_
        refine DL.quiet (v:=a0_5) rfl (Wn.no c44 rfl rfl rfl rfl) rfl rfl rfl (f_load (j:=0) ty_a24 rfl rfl rfl rfl) ?_
        obtain ⟨g47,h48⟩:=req_some h46
        refine DL.pure (v:=elp a0_5 ((1 : Int).toNat)) rfl (Wn.no c44 rfl rfl rfl rfl) rfl rfl rfl (p_slIx1 ty_u24 ty_s50 (RowV.some hr_a0_5 (by decide) g47) (by decide) g47 rfl rfl rfl) ?_
        refine DL.quiet (v:=.int .u64 ((Der.arcs a0).getD ((1 : Int).toNat) 0)) rfl (Wn.no c44 rfl rfl rfl rfl) rfl rfl rfl (q_loadEl (fun w hc => hE.imm hc) hr_a0_5 (encl_get .u64 (lt_len (by decide) g47)) ty_a50 rfl rfl) ?_
        obtain ⟨t49,e50,h51⟩:=nm_some h48
        refine DL.pure (v:=.bool t49) rfl (Wn.no c44 rfl rfl rfl rfl) rfl rfl rfl (by rw [e50]; exact p_lss rfl rfl rfl) ?_
        refine DL.pure (v:=.bool t49) rfl (Wn.yes c35 rfl rfl rfl rfl) rfl rfl rfl (p_pick_f c44 rfl rfl rfl) ?_
        obtain rfl:=Option.some.inj h51
        exact DL.weak J43 (Sub.cons rfl (Sub.cons rfl (Sub.cons rfl (Sub.cons rfl (Sub.nil _)))))
     ·
      replace c35:=Bool.eq_false_iff.mpr c35
      have h52:=ite_false c35 h32
      refine DL.not (i:=18) rfl (Wn.no c35 rfl rfl rfl rfl) rfl rfl ?_
      refine DL.not (i:=19) rfl (Wn.no c35 rfl rfl rfl rfl) rfl rfl ?_
      refine DL.not (i:=20) rfl (Wn.no c35 rfl rfl rfl rfl) rfl rfl ?_
      refine DL.not (i:=21) rfl (Wn.no c35 rfl rfl rfl rfl) rfl rfl ?_
      refine DL.not (i:=22) rfl (Wn.no c35 rfl rfl rfl rfl) rfl rfl ?_
      refine DL.not (i:=23) rfl (Wn.no c35 rfl rfl rfl rfl) rfl rfl ?_
      refine DL.not (i:=24) rfl (Wn.undef rfl rfl rfl) rfl rfl ?_
      refine DL.not (i:=25) rfl (Wn.undef rfl rfl rfl) rfl rfl ?_
      refine DL.not (i:=26) rfl (Wn.undef rfl rfl rfl) rfl rfl ?_
      refine DL.not (i:=27) rfl (Wn.undef rfl rfl rfl) rfl rfl ?_
      refine DL.not (i:=28) rfl (Wn.undef rfl rfl rfl) rfl rfl ?_
      refine DL.not (i:=29) rfl (Wn.no c35 rfl rfl rfl rfl) rfl rfl ?_
      refine DL.pu 48 (.bool false) rfl (p_pick_f c35 rfl rfl rfl) ?_
      obtain rfl:=Option.some.inj h52
      exact DL.weak J34 (Sub.cons rfl (Sub.cons rfl (Sub.cons rfl (Sub.nil _))))
   ·
    by_cases c22 : q10 = true
    ·
     have h23:=ite_true c22 h19
     refine DL.pure (v:=ptr b1 5) rfl (Wn.yes c22 rfl rfl rfl rfl) rfl rfl rfl (p_fieldAddr ty_f27_5 rfl rfl) ?_
     refine DL.quiet (v:=a0_5) rfl (Wn.yes c22 rfl rfl rfl rfl) rfl rfl rfl (f_load (j:=0) ty_a24 rfl rfl rfl rfl) ?_
     obtain ⟨g24,h25⟩:=req_some h23
     refine DL.pure (v:=elp a0_5 ((0 : Int).toNat)) rfl (Wn.yes c22 rfl rfl rfl rfl) rfl rfl rfl (p_slIx1 ty_u24 ty_s50 (RowV.some hr_a0_5 (by decide) g24) (by decide) g24 rfl rfl rfl) ?_
     refine DL.quiet (v:=.int .u64 ((Der.arcs a0).getD ((0 : Int).toNat) 0)) rfl (Wn.yes c22 rfl rfl rfl rfl) rfl rfl rfl (q_loadEl (fun w hc => hE.imm hc) hr_a0_5 (encl_get .u64 (lt_len (by decide) g24)) ty_a50 rfl rfl) ?_
     obtain ⟨t26,e27,h28⟩:=nm_some h25
     refine DL.pure (v:=.bool t26) rfl (Wn.yes c22 rfl rfl rfl rfl) rfl rfl rfl (by rw [e27]; exact p_leq rfl rfl rfl) ?_
     refine DL.pu 34 (.bool t26) rfl (p_pick_t c22 rfl rfl rfl) ?_
     obtain rfl:=Option.some.inj h28
     exact DL.weak J21 (Sub.cons rfl (Sub.cons rfl (Sub.cons rfl (Sub.nil _))))
    ·
     replace c22:=Bool.eq_false_iff.mpr c22
     have h29:=ite_false c22 h19
     refine DL.not (i:=11) rfl (Wn.no c22 rfl rfl rfl rfl) rfl rfl ?_
     refine DL.not (i:=12) rfl (Wn.no c22 rfl rfl rfl rfl) rfl rfl ?_
     refine DL.not (i:=13) rfl (Wn.no c22 rfl rfl rfl rfl) rfl rfl ?_
     refine DL.not (i:=14) rfl (Wn.no c22 rfl rfl rfl rfl) rfl rfl ?_
     refine DL.not (i:=15) rfl (Wn.no c22 rfl rfl rfl rfl) rfl rfl ?_
     refine DL.pu 34 (.bool false) rfl (p_pick_f c22 rfl rfl rfl) ?_
     obtain rfl:=Option.some.inj h29
     exact DL.weak J21 (Sub.cons rfl (Sub.cons rfl (Sub.cons rfl (Sub.nil _))))
  ·
   by_cases c14 : (decide (2 ≤ ((Der.arcs a0).length : Int))) = true
   ·
    have h15:=ite_true c14 h11
    refine DL.pure (v:=ptr b1 5) rfl (Wn.yes c14 rfl rfl rfl rfl) rfl rfl rfl (p_fieldAddr ty_f27_5 rfl rfl) ?_
    refine DL.quiet (v:=a0_5) rfl (Wn.yes c14 rfl rfl rfl rfl) rfl rfl rfl (f_load (j:=0) ty_a24 rfl rfl rfl rfl) ?_
    refine DL.pure (v:=.int .i64 ((Der.arcs a0).length : Int)) rfl (Wn.yes c14 rfl rfl rfl rfl) rfl rfl rfl (p_slLen ty_u24 (RowV.sl hr_a0_5) rfl rfl) ?_
    refine DL.pure (v:=.bool (decide (((Der.arcs a0).length : Int) ≤ 16))) rfl (Wn.yes c14 rfl rfl rfl rfl) rfl rfl rfl (p_leq rfl rfl rfl) ?_
    refine DL.pu 27 (.bool (decide (((Der.arcs a0).length : Int) ≤ 16))) rfl (p_pick_t c14 rfl rfl rfl) ?_
    obtain rfl:=Option.some.inj h15
    exact DL.weak J13 (Sub.cons rfl (Sub.cons rfl (Sub.cons rfl (Sub.nil _))))
   ·
    replace c14:=Bool.eq_false_iff.mpr c14
    have h16:=ite_false c14 h11
    refine DL.not (i:=5) rfl (Wn.no c14 rfl rfl rfl rfl) rfl rfl ?_
    refine DL.not (i:=6) rfl (Wn.no c14 rfl rfl rfl rfl) rfl rfl ?_
    refine DL.not (i:=7) rfl (Wn.no c14 rfl rfl rfl rfl) rfl rfl ?_
    refine DL.not (i:=8) rfl (Wn.no c14 rfl rfl rfl rfl) rfl rfl ?_
    refine DL.pu 27 (.bool false) rfl (p_pick_f c14 rfl rfl rfl) ?_
    obtain rfl:=Option.some.inj h16
    exact DL.weak J13 (Sub.cons rfl (Sub.cons rfl (Sub.cons rfl (Sub.nil _))))
 ·
  replace c2:=Bool.eq_false_iff.mpr c2
  have h145:=ite_false c2 h4
  refine TT.cond_false (x:=sub [1,1,1,0,1,0] B34) (y:=sub [1,1,1,0,1,1] B34) rfl c2 ?_
  refine TT.skip ?_
  obtain rfl:=Option.some.inj h145
  exact TT.weak (J6 ) (Sub.cons rfl (Sub.cons rfl (Sub.cons rfl (Sub.nil _))))
theorem ref13_own.val {a0 : Der} {a0_3 : Value} {a0_5 : Value} {a0_6 : Value} {r : Bool} (h : ref13_own.f a0 = some r) {M : Mem} (w : World) (hM : Ext M (heapOf w)) (hG : Glob M) (hr_a0_3 : IntRow M .u8 a0_3 (Der.bytes a0)) (hr_a0_5 : IntRow M .u64 a0_5 (Der.arcs a0)) (hr_a0_6 : RowS ShDer M a0_6 (Tree.kids a0)) : Calls Tryd.prog 34 #[.agg (Der.ce a0 a0_3 a0_5 a0_6)] w fun e w' => e = .returned (.bool r) ∧ Below w.heap.size w w' :=
 calls_value (ref13_own.ok h w hM hG hr_a0_3 hr_a0_5 hr_a0_6)

/-! ### slices.Clone[[]escutcheon/api.Der,escutcheon/api.Der]: function 40 -/
noncomputable def B40 : Code:=bodyOf Tryd.f40
def slices_Clone_40.f (a0 : List Der) : Option ((List Der)):=req (([] : List Der).length + a0.length ≤ 1099511627776) (some (([] : List Der) ++ a0))
set_option maxRecDepth 20000 in
theorem slices_Clone_40.ok {a0 : List Der} {a0_v : Value} {r : List Der} (h : slices_Clone_40.f a0 = some r) {M : Mem} (w : World) (hM : Ext M (heapOf w)) (hr_a0 : RowS ShDer M a0_v a0) : Calls Tryd.prog 40 #[a0_v] w (PostF (G:=Value) (fun g => g) (fun g M_ => (RowS ShDer M_ g r)) M w):=by
 unfold slices_Clone_40.f at h
 have hE:=Env.start hM
 refine calls_of_TT (N:=8) (S:=[(0,a0_v)]) (c:=B40) Tryd.func40 rfl rfl rfl (by simp) ?_
 show TT _ _ _ _ _ _ [.code (sub [] B40)] _ _
 refine TT.seq (x:=sub [0] B40) (y:=sub [1] B40) ?_
 refine TT.rg [0] [kp] rfl rfl ?_
 refine DL.pu 2 (.slice none 0 0) rfl (p_assign rfl rfl) ?_
 refine DL.nil ?_
 refine TT.seq (x:=sub [1,0] B40) (y:=sub [1,1] B40) ?_
 refine TT.seq (x:=sub [1,0,0] B40) (y:=sub [1,0,1] B40) ?_
 refine TT.rg [0,1] [kp,kp] rfl rfl ?_
 refine DL.mv 3 (a0_v) rfl rfl rfl ?_
 obtain ⟨an1,cn1,hvn1⟩:=RowS.sl hr_a0
 refine DL.pu 4 (.bool an1.isNone) rfl (p_sliceNil ty_us25 hvn1 rfl rfl rfl) ?_
 refine DL.nil ?_
 by_cases c2 : an1.isNone = true
 ·
  have x3 : a0 = []:=row_isNil (RowS.V hr_a0).choose_spec hvn1 c2
  refine TT.cond_true (x:=sub [1,0,1,0] B40) (y:=sub [1,0,1,1] B40) rfl c2 ?_
  refine TT.seq (x:=sub [1,0,1,0,0] B40) (y:=sub [1,0,1,0,1] B40) ?_
  refine TT.rg [0] [kp] rfl rfl ?_
  refine DL.pu 2 (.slice none 0 0) rfl (p_assign rfl rfl) ?_
  refine DL.nil ?_
  have hr0 : r = []:=by simpa [x3,req] using h.symm
  subst hr0
  exact retF (rs:=[.tmp 2]) (vs:=[(.slice none 0 0)]) (.slice none 0 0) hE Tryd.func40 rfl rfl rfl (res_cons (ResV.tmp rfl) res_nil) (RowS.nil ShDer M)
 ·
  replace c2:=Bool.eq_false_iff.mpr c2
  refine TT.cond_false (x:=sub [1,0,1,0] B40) (y:=sub [1,0,1,1] B40) rfl c2 ?_
  refine TT.skip ?_
  refine TT.seq (x:=sub [1,1,0] B40) (y:=sub [1,1,1] B40) ?_
  refine TT.rg [0,1,2,3] [(.alloc,none),kp,kx,kp] rfl rfl ?_
  refine DL.new0 (M:=M) (s:=ShDer) (i:=0) rfl (Wn.none rfl) rfl rfl rfl (f_build0 elem25 rfl (args_val2 (vs:=[]) rfl)) ?_
  intro s5_v s5_c ho_s5
  refine DL.mv 6 (a0_v) rfl rfl rfl ?_
  obtain ⟨g6,h7⟩:=req_some h
  refine DL.appendS (M:=M) (s:=ShDer) (fun s8_v s8_c => [(Value.ownBlock s8_v,.cells s8_c 27 (0,0))]) elem25 (j:=0) rfl ho_s5 g6 (by decide) (RowS.srcC hr_a0 (fun w hc => hE.imm hc)) (i:=2) rfl (Wn.none rfl) rfl rfl rfl rfl rfl rfl (fun _ _ => rfl) ?_
  intro s8_v s8_c ho_s8
  show DL _ _ _ _ _ _ _ _ _ _ _ _ [(Value.ownBlock s8_v,.cells s8_c 27 (0,0))]
  refine DL.pu 2 (s8_v) rfl (p_assign rfl rfl) ?_
  refine DL.nil ?_
  refine TT.freezeAt (j:=0) hE rfl ?_
  intro M9 I9 hE9 hx9 hxI9 hb9
  have hr_9 : RowS ShDer M9 s8_v (([] : List Der) ++ a0):=OwnS.stays ho_s8 hx9 hb9
  show TT _ _ _ _ _ _ _ _ []
  obtain rfl:=Option.some.inj h7
  exact retF (rs:=[.tmp 2]) (vs:=[s8_v]) s8_v hE9 Tryd.func40 rfl rfl rfl (res_cons (ResV.tmp rfl) res_nil) hr_9

/-! ### slices.Clone[[]byte,byte]: function 41 -/
noncomputable def B41 : Code:=bodyOf Tryd.f41
def slices_Clone_41.f (a0 : List Int) : Option ((List Int)):=req (([] : List Int).length + a0.length ≤ 1099511627776) (some (([] : List Int) ++ a0))
set_option maxRecDepth 20000 in
theorem slices_Clone_41.ok {a0 : List Int} {a0_v : Value} {r : List Int} (h : slices_Clone_41.f a0 = some r) {M : Mem} (w : World) (hM : Ext M (heapOf w)) (hr_a0 : IntRow M .u8 a0_v a0) : Calls Tryd.prog 41 #[a0_v] w (PostF (G:=Value) (fun g => g) (fun g M_ => (IntRow M_ .u8 g r)) M w):=by
 unfold slices_Clone_41.f at h
 have hE:=Env.start hM
 refine calls_of_TT (N:=8) (S:=[(0,a0_v)]) (c:=B41) Tryd.func41 rfl rfl rfl (by simp) ?_
 show TT _ _ _ _ _ _ [.code (sub [] B41)] _ _
 refine TT.seq (x:=sub [0] B41) (y:=sub [1] B41) ?_
 refine TT.rg [0] [kp] rfl rfl ?_
 refine DL.pu 2 (.slice none 0 0) rfl (p_assign rfl rfl) ?_
 refine DL.nil ?_
 refine TT.seq (x:=sub [1,0] B41) (y:=sub [1,1] B41) ?_
 refine TT.seq (x:=sub [1,0,0] B41) (y:=sub [1,0,1] B41) ?_
 refine TT.rg [0,1] [kp,kp] rfl rfl ?_
 refine DL.mv 3 (a0_v) rfl rfl rfl ?_
 obtain ⟨an1,cn1,hvn1⟩:=RowV.sl hr_a0
 refine DL.pu 4 (.bool an1.isNone) rfl (p_sliceNil ty_us23 hvn1 rfl rfl rfl) ?_
 refine DL.nil ?_
 by_cases c2 : an1.isNone = true
 ·
  have x3 : a0 = []:=row_isNil hr_a0 hvn1 c2
  refine TT.cond_true (x:=sub [1,0,1,0] B41) (y:=sub [1,0,1,1] B41) rfl c2 ?_
  refine TT.seq (x:=sub [1,0,1,0,0] B41) (y:=sub [1,0,1,0,1] B41) ?_
  refine TT.rg [0] [kp] rfl rfl ?_
  refine DL.pu 2 (.slice none 0 0) rfl (p_assign rfl rfl) ?_
  refine DL.nil ?_
  have hr0 : r = []:=by simpa [x3,req] using h.symm
  subst hr0
  exact retF (rs:=[.tmp 2]) (vs:=[(.slice none 0 0)]) (.slice none 0 0) hE Tryd.func41 rfl rfl rfl (res_cons (ResV.tmp rfl) res_nil) (IntRow.nil .u8 M)
 ·
  replace c2:=Bool.eq_false_iff.mpr c2
  refine TT.cond_false (x:=sub [1,0,1,0] B41) (y:=sub [1,0,1,1] B41) rfl c2 ?_
  refine TT.skip ?_
  refine TT.seq (x:=sub [1,1,0] B41) (y:=sub [1,1,1] B41) ?_
  refine TT.rg [0,1,2,3] [(.alloc,none),kp,kx,kp] rfl rfl ?_
  refine DL.new0I .u8 (i:=0) rfl (Wn.none rfl) rfl rfl rfl (f_build0 elem23 rfl (args_val2 (vs:=[]) rfl)) ?_
  intro s5_v s5_c ho_s5
  refine DL.mv 6 (a0_v) rfl rfl rfl ?_
  obtain ⟨g6,h7⟩:=req_some h
  refine DL.appendI (fun s8_v s8_c => [(Value.ownBlock s8_v,.cells s8_c 5 (0,0))]) elem23 (j:=0) rfl ho_s5 g6 (by decide) (fun w hc => RowV.src (RowV.mono hr_a0 (hE.ext hc)) (encl_one _ _)) (i:=2) rfl (Wn.none rfl) rfl rfl rfl rfl rfl rfl (fun _ _ => rfl) ?_
  intro s8_v s8_c ho_s8
  show DL _ _ _ _ _ _ _ _ _ _ _ _ [(Value.ownBlock s8_v,.cells s8_c 5 (0,0))]
  refine DL.pu 2 (s8_v) rfl (p_assign rfl rfl) ?_
  refine DL.nil ?_
  refine TT.freezeAt (j:=0) hE rfl ?_
  intro M9 I9 hE9 hx9 hxI9 hb9
  have hr_9 : IntRow M9 .u8 s8_v (([] : List Int) ++ a0):=IntOwn.stays ho_s8 hb9
  show TT _ _ _ _ _ _ _ _ []
  obtain rfl:=Option.some.inj h7
  exact retF (rs:=[.tmp 2]) (vs:=[s8_v]) s8_v hE9 Tryd.func41 rfl rfl rfl (res_cons (ResV.tmp rfl) res_nil) hr_9

/-! ### slices.Clone[[]uint64,uint64]: function 42 -/
noncomputable def B42 : Code:=bodyOf Tryd.f42
def slices_Clone_42.f (a0 : List Int) : Option ((List Int)):=req (([] : List Int).length + a0.length ≤ 1099511627776) (some (([] : List Int) ++ a0))
set_option maxRecDepth 20000 in
theorem slices_Clone_42.ok {a0 : List Int} {a0_v : Value} {r : List Int} (h : slices_Clone_42.f a0 = some r) {M : Mem} (w : World) (hM : Ext M (heapOf w)) (hr_a0 : IntRow M .u64 a0_v a0) : Calls Tryd.prog 42 #[a0_v] w (PostF (G:=Value) (fun g => g) (fun g M_ => (IntRow M_ .u64 g r)) M w):=by
 unfold slices_Clone_42.f at h
 have hE:=Env.start hM
 refine calls_of_TT (N:=8) (S:=[(0,a0_v)]) (c:=B42) Tryd.func42 rfl rfl rfl (by simp) ?_
 show TT _ _ _ _ _ _ [.code (sub [] B42)] _ _
 refine TT.seq (x:=sub [0] B42) (y:=sub [1] B42) ?_
 refine TT.rg [0] [kp] rfl rfl ?_
 refine DL.pu 2 (.slice none 0 0) rfl (p_assign rfl rfl) ?_
 refine DL.nil ?_
 refine TT.seq (x:=sub [1,0] B42) (y:=sub [1,1] B42) ?_
 refine TT.seq (x:=sub [1,0,0] B42) (y:=sub [1,0,1] B42) ?_
 refine TT.rg [0,1] [kp,kp] rfl rfl ?_
 refine DL.mv 3 (a0_v) rfl rfl rfl ?_
 obtain ⟨an1,cn1,hvn1⟩:=RowV.sl hr_a0
 refine DL.pu 4 (.bool an1.isNone) rfl (p_sliceNil ty_us24 hvn1 rfl rfl rfl) ?_
 refine DL.nil ?_
 by_cases c2 : an1.isNone = true
 ·
  have x3 : a0 = []:=row_isNil hr_a0 hvn1 c2
  refine TT.cond_true (x:=sub [1,0,1,0] B42) (y:=sub [1,0,1,1] B42) rfl c2 ?_
  refine TT.seq (x:=sub [1,0,1,0,0] B42) (y:=sub [1,0,1,0,1] B42) ?_
  refine TT.rg [0] [kp] rfl rfl ?_
  refine DL.pu 2 (.slice none 0 0) rfl (p_assign rfl rfl) ?_
  refine DL.nil ?_
  have hr0 : r = []:=by simpa [x3,req] using h.symm
  subst hr0
  exact retF (rs:=[.tmp 2]) (vs:=[(.slice none 0 0)]) (.slice none 0 0) hE Tryd.func42 rfl rfl rfl (res_cons (ResV.tmp rfl) res_nil) (IntRow.nil .u64 M)
 ·
  replace c2:=Bool.eq_false_iff.mpr c2
  refine TT.cond_false (x:=sub [1,0,1,0] B42) (y:=sub [1,0,1,1] B42) rfl c2 ?_
  refine TT.skip ?_
  refine TT.seq (x:=sub [1,1,0] B42) (y:=sub [1,1,1] B42) ?_
  refine TT.rg [0,1,2,3] [(.alloc,none),kp,kx,kp] rfl rfl ?_
  refine DL.new0I .u64 (i:=0) rfl (Wn.none rfl) rfl rfl rfl (f_build0 elem24 rfl (args_val2 (vs:=[]) rfl)) ?_
  intro s5_v s5_c ho_s5
  refine DL.mv 6 (a0_v) rfl rfl rfl ?_
  obtain ⟨g6,h7⟩:=req_some h
  refine DL.appendI (fun s8_v s8_c => [(Value.ownBlock s8_v,.cells s8_c 50 (0,0))]) elem24 (j:=0) rfl ho_s5 g6 (by decide) (fun w hc => RowV.src (RowV.mono hr_a0 (hE.ext hc)) (encl_one _ _)) (i:=2) rfl (Wn.none rfl) rfl rfl rfl rfl rfl rfl (fun _ _ => rfl) ?_
  intro s8_v s8_c ho_s8
  show DL _ _ _ _ _ _ _ _ _ _ _ _ [(Value.ownBlock s8_v,.cells s8_c 50 (0,0))]
  refine DL.pu 2 (s8_v) rfl (p_assign rfl rfl) ?_
  refine DL.nil ?_
  refine TT.freezeAt (j:=0) hE rfl ?_
  intro M9 I9 hE9 hx9 hxI9 hb9
  have hr_9 : IntRow M9 .u64 s8_v (([] : List Int) ++ a0):=IntOwn.stays ho_s8 hb9
  show TT _ _ _ _ _ _ _ _ []
  obtain rfl:=Option.some.inj h7
  exact retF (rs:=[.tmp 2]) (vs:=[s8_v]) s8_v hE9 Tryd.func42 rfl rfl rfl (res_cons (ResV.tmp rfl) res_nil) hr_9

@[reducible] def ref13_May.Rec (r_ : Der → Int → Option (Bool)) : Prop:=∀ {a0 : Der} {a1 : Int} {a0_3 : Value} {a0_5 : Value} {a0_6 : Value} {r : Bool},r_ a0 a1 = some r → ∀ {M : Mem} (w : World) (hM : Ext M (heapOf w)) (hG : Glob M) (hr_a0_3 : IntRow M .u8 a0_3 (Der.bytes a0)) (hr_a0_5 : IntRow M .u64 a0_5 (Der.arcs a0)) (hr_a0_6 : RowS ShDer M a0_6 (Tree.kids a0)),Calls Tryd.prog 15 #[.agg (Der.ce a0 a0_3 a0_5 a0_6),.int .i64 a1] w (fun e w' => e = .returned (.bool r) ∧ Below w.heap.size w w')

/-! ### escutcheon/escutcheonref13.May: function 15 -/
noncomputable def B15 : Code:=bodyOf Tryd.f15
def ref13_May.L0 (r_ref13_May : Der → Int → Option (Bool)) (a0 : Der) (a1 : Int) : Nat → Int → Option ((Unit) ⊕ (Bool))
 | 0,_ => none
 | k + 1,x5_16 => if (decide (x5_16 < ((Tree.kids a0).length : Int))) = true then (req (0 ≤ x5_16) (req (x5_16 < ((Tree.kids a0).length : Int)) (nm ((Tree.kids a0).getD x5_16.toNat Der.dflt) fun t91 => (r_ref13_May t91 (IntKind.i64.wrap (a1 - 1))).bind fun t94 => if (!t94) = true then (some (.inr false)) else (ref13_May.L0 r_ref13_May a0 a1 k (IntKind.i64.wrap (x5_16 + 1)))))) else (some (.inl ()))
set_option maxRecDepth 20000 in
theorem ref13_May.L0_ok {r_ref13_May : Der → Int → Option (Bool)} (hr_ref13_May : ref13_May.Rec r_ref13_May) (a0 : Der) (a0_3 : Value) (a0_5 : Value) (a0_6 : Value) (a1 : Int) (b1 : Nat) {r : Bool}  {w0 : World} {M0 M I : Mem} {K : List Item} (hE : Env w0 M0 M I) (hG : Glob M) (hr_a0_6 : RowS ShDer M a0_6 (Tree.kids a0)) :
  ∀ (k : Nat) (x5_16 : Int) (q : (Unit) ⊕ (Bool)) (h : ref13_May.L0 r_ref13_May a0 a1 k x5_16 = some q) (hk : match (generalizing:=false) q with | .inl () => (TT Tryd.prog 15 (Post (fun u => u = .bool r) w0) 29 w0 I K [] [(some b1,.cells ((Der.ce a0 a0_3 a0_5 a0_6)) 27 (0,0))]) | .inr rq => rq = r),
   TT Tryd.prog 15 (Post (fun u => u = .bool r) w0) 29 w0 I (.code (sub [1,1,0,1,0,0] B15) :: .inLoop (sub [1,1,0,1,0,0] B15) :: .inBlock 0 :: K) [(1,.int .i64 a1),(2,ptr b1 0),(5,.int .i64 x5_16)] [(some b1,.cells ((Der.ce a0 a0_3 a0_5 a0_6)) 27 (0,0))]:=by
 intro k
 induction k with
 | zero => intro x5_16 q h; simp [ref13_May.L0] at h
 | succ k ih =>
  intro x5_16 q h hk
  unfold ref13_May.L0 at h
  refine TT.seq (x:=sub [1,1,0,1,0,0,0] B15) (y:=sub [1,1,0,1,0,0,1] B15) ?_
  refine TT.seq (x:=sub [1,1,0,1,0,0,0,0] B15) (y:=sub [1,1,0,1,0,0,0,1] B15) ?_
  refine TT.rg [0,1,2,3,4] [kp,kp,kq,kp,kp] rfl rfl ?_
  refine DL.mv 13 (.int .i64 x5_16) rfl rfl rfl ?_
  refine DL.pu 14 (ptr b1 6) rfl (p_fieldAddr ty_f27_6 rfl rfl) ?_
  refine DL.qu 15 (a0_6) rfl (f_load (j:=0) ty_a25 rfl rfl rfl rfl) ?_
  refine DL.pu 16 (.int .i64 ((Tree.kids a0).length : Int)) rfl (p_slLen ty_u25 (RowS.sl hr_a0_6) rfl rfl) ?_
  refine DL.pu 17 (.bool (decide (x5_16 < ((Tree.kids a0).length : Int)))) rfl (p_lss rfl rfl rfl) ?_
  refine DL.nil ?_
  by_cases c84 : (decide (x5_16 < ((Tree.kids a0).length : Int))) = true
  ·
   have h85:=ite_true c84 h
   refine TT.cond_true (x:=sub [1,1,0,1,0,0,0,1,0] B15) (y:=sub [1,1,0,1,0,0,0,1,1] B15) rfl c84 ?_
   refine TT.skip ?_
   refine TT.seq (x:=sub [1,1,0,1,0,0,1,0] B15) (y:=sub [1,1,0,1,0,0,1,1] B15) ?_
   refine TT.block (c:=sub [1,1,0,1,0,0,1,0,0] B15) ?_
   refine TT.seq (x:=sub [1,1,0,1,0,0,1,0,0,0] B15) (y:=sub [1,1,0,1,0,0,1,0,0,1] B15) ?_
   refine TT.rg [0,1,2,3,4,5,6,7,8] [kp,kq,kp,kp,kq,kp,kp,kq,kp] rfl rfl ?_
   refine DL.pu 20 (ptr b1 6) rfl (p_fieldAddr ty_f27_6 rfl rfl) ?_
   refine DL.qu 21 (a0_6) rfl (f_load (j:=0) ty_a25 rfl rfl rfl rfl) ?_
   refine DL.mv 22 (.int .i64 x5_16) rfl rfl rfl ?_
   obtain ⟨g86,h87⟩:=req_some h85
   obtain ⟨g88,h89⟩:=req_some h87
   refine DL.pu 23 (elp a0_6 (x5_16.toNat * 7)) rfl (p_slIx ty_u25 ty_s27 (RowS.some hr_a0_6 g86 g88) g86 g88 rfl rfl rfl) ?_
   obtain ⟨t91,e92,h93⟩:=nm_some h89
   obtain ⟨cs90,hc90,hl90⟩:=id (hr_a0_6)
   have q90:=hl90 _ _ (getD_some Der.dflt (lt_len g86 g88)); rw [← e92] at q90
   obtain ⟨t91_3,t91_5,t91_6,hq90,hr_t91_3,hr_t91_5,hr_t91_6⟩:=Der.op q90
   refine DL.qu 24 (.agg (Der.ce t91 t91_3 t91_5 t91_6)) rfl (q_loadElA (fun w hc => hE.imm hc) hc90 hq90 (lt_len g86 g88) ty_a27 ty_s27 rfl rfl) ?_
   refine DL.mv 25 (.int .i64 a1) rfl rfl rfl ?_
   refine DL.pu 26 (.int .i64 (IntKind.i64.wrap (a1 - 1))) rfl (p_sub rfl rfl rfl) ?_
   obtain ⟨t94,h95,h96⟩:=bind_some h93
   refine DL.qu 27 (.bool t94) rfl (f_callR rfl rfl (args_val (vs:=[.agg (Der.ce t91 t91_3 t91_5 t91_6),.int .i64 (IntKind.i64.wrap (a1 - 1))]) rfl) (fun w => enter15 _ w) (fun w hc => hr_ref13_May h95 (M:=M) w (hE.ext hc) hG hr_t91_3 hr_t91_5 hr_t91_6)) ?_
   refine DL.pu 28 (.bool (!t94)) rfl (p_not rfl rfl) ?_
   refine DL.nil ?_
   by_cases c97 : (!t94) = true
   ·
    have h98:=ite_true c97 h96
    refine TT.cond_true (x:=sub [1,1,0,1,0,0,1,0,0,1,0] B15) (y:=sub [1,1,0,1,0,0,1,0,0,1,1] B15) rfl c97 ?_
    refine TT.seq (x:=sub [1,1,0,1,0,0,1,0,0,1,0,0] B15) (y:=sub [1,1,0,1,0,0,1,0,0,1,0,1] B15) ?_
    refine TT.rg [0] [kp] rfl rfl ?_
    refine DL.pu 4 (.bool false) rfl (p_assign rfl rfl) ?_
    refine DL.nil ?_
    obtain rfl:=Option.some.inj h98
    have k99 : false = r:=hk
    subst k99
    exact retnE (rs:=[.tmp 4]) (vs:=[.bool false]) hE.base Tryd.func15 rfl rfl rfl (res_cons (ResV.tmp rfl) res_nil) rfl
   ·
    replace c97:=Bool.eq_false_iff.mpr c97
    have h100:=ite_false c97 h96
    refine TT.cond_false (x:=sub [1,1,0,1,0,0,1,0,0,1,0] B15) (y:=sub [1,1,0,1,0,0,1,0,0,1,1] B15) rfl c97 ?_
    refine TT.skip ?_
    refine TT.inBlock ?_
    refine TT.rg [0,1,2] [kp,kp,kp] rfl rfl ?_
    refine DL.mv 18 (.int .i64 x5_16) rfl rfl rfl ?_
    refine DL.pu 19 (.int .i64 (IntKind.i64.wrap (x5_16 + 1))) rfl (p_add rfl rfl rfl) ?_
    refine DL.pu 5 (.int .i64 (IntKind.i64.wrap (x5_16 + 1))) rfl (p_assign rfl rfl) ?_
    refine DL.nil ?_
    refine TT.inLoop ?_
    exact TT.weak (ih (IntKind.i64.wrap (x5_16 + 1)) _ h100 hk) (Sub.cons rfl (Sub.cons rfl (Sub.cons rfl (Sub.nil _))))
  ·
   replace c84:=Bool.eq_false_iff.mpr c84
   have h101:=ite_false c84 h
   refine TT.cond_false (x:=sub [1,1,0,1,0,0,0,1,0] B15) (y:=sub [1,1,0,1,0,0,0,1,1] B15) rfl c84 ?_
   refine TT.exit rfl ?_
   obtain rfl:=Option.some.inj h101
   exact TT.weak (hk) (Sub.nil _)

def ref13_May.F (r_ref13_May : Der → Int → Option (Bool)) (a0 : Der) (a1 : Int) : Option (Bool):=(if (decide (a1 < 1)) = true then (some true) else ((ref13_own.f a0).bind fun t10 => some (!t10))).bind fun q3 => if q3 = true then (some false) else (onw (ref13_May.L0 r_ref13_May a0 a1 (((Tree.kids a0).length : Int).toNat + 1) 0) (fun _ => some true) (fun r => some r))
set_option maxRecDepth 20000 in
theorem ref13_May.okF {r_ref13_May : Der → Int → Option (Bool)} (hr_ref13_May : ref13_May.Rec r_ref13_May) {a0 : Der} {a1 : Int} {a0_3 : Value} {a0_5 : Value} {a0_6 : Value} {r : Bool} (h : ref13_May.F r_ref13_May a0 a1 = some r) {M : Mem} (w : World) (hM : Ext M (heapOf w)) (hG : Glob M) (hr_a0_3 : IntRow M .u8 a0_3 (Der.bytes a0)) (hr_a0_5 : IntRow M .u64 a0_5 (Der.arcs a0)) (hr_a0_6 : RowS ShDer M a0_6 (Tree.kids a0)) : Calls Tryd.prog 15 #[.agg (Der.ce a0 a0_3 a0_5 a0_6),.int .i64 a1] w (Post (fun u => u = .bool r) w):=by
 unfold ref13_May.F at h
 have hE:=Env.start hM
 refine calls_of_TT (N:=29) (S:=[(0,.agg (Der.ce a0 a0_3 a0_5 a0_6)),(1,.int .i64 a1)]) (c:=B15) Tryd.func15 rfl rfl rfl (by simp) ?_
 show TT _ _ _ _ _ _ [.code (sub [] B15)] _ _
 refine TT.seq (x:=sub [0] B15) (y:=sub [1] B15) ?_
 refine TT.rg [0,1] [(.alloc,none),kp] rfl rfl ?_
 refine DL.new (ob:=.cells ((Der.ce a0 a0_3 a0_5 a0_6)) 27) (mk:=fun b => ptr b 0) (i:=0) rfl (Wn.none rfl) rfl rfl rfl (f_box (v:=.agg (Der.ce a0 a0_3 a0_5 a0_6)) rfl rfl) ?_
 intro b1 hb1
 refine DL.pu 4 (.bool false) rfl (p_assign rfl rfl) ?_
 refine DL.nil ?_
 refine TT.seq (x:=sub [1,0] B15) (y:=sub [1,1] B15) ?_
 refine TT.seq (x:=sub [1,0,0] B15) (y:=sub [1,0,1] B15) ?_
 refine TT.rg [0,1,2,3,4,5,6] [kp,kp,kp,kq,kq,kp,kp] rfl rfl ?_
 refine DL.mv 6 (.int .i64 a1) rfl rfl rfl ?_
 refine DL.pu 7 (.bool (decide (a1 < 1))) rfl (p_lss rfl rfl rfl) ?_
 refine DL.mv 8 (.bool (decide (a1 < 1))) rfl rfl rfl ?_
 obtain ⟨q3,h4,h5⟩:=bind_some h
 refine DL.cut [(1,.int .i64 a1),(2,ptr b1 0),(12,.bool q3)] [] ?_ (fun J6 => ?_)
 ·
  refine DL.nil ?_
  by_cases c13 : q3 = true
  ·
   have h14:=ite_true c13 h5
   refine TT.cond_true (x:=sub [1,0,1,0] B15) (y:=sub [1,0,1,1] B15) rfl c13 ?_
   refine TT.seq (x:=sub [1,0,1,0,0] B15) (y:=sub [1,0,1,0,1] B15) ?_
   refine TT.rg [0] [kp] rfl rfl ?_
   refine DL.pu 4 (.bool false) rfl (p_assign rfl rfl) ?_
   refine DL.nil ?_
   obtain rfl:=Option.some.inj h14
   exact retnE (rs:=[.tmp 4]) (vs:=[.bool false]) hE.base Tryd.func15 rfl rfl rfl (res_cons (ResV.tmp rfl) res_nil) rfl
  ·
   replace c13:=Bool.eq_false_iff.mpr c13
   have h15:=ite_false c13 h5
   refine TT.cond_false (x:=sub [1,0,1,0] B15) (y:=sub [1,0,1,1] B15) rfl c13 ?_
   refine TT.skip ?_
   refine TT.seq (x:=sub [1,1,0] B15) (y:=sub [1,1,1] B15) ?_
   refine TT.seq (x:=sub [1,1,0,0] B15) (y:=sub [1,1,0,1] B15) ?_
   refine TT.rg [0] [kp] rfl rfl ?_
   refine DL.pu 5 (.int .i64 0) rfl (p_assign rfl rfl) ?_
   refine DL.nil ?_
   refine TT.block (c:=sub [1,1,0,1,0] B15) ?_
   refine TT.loop (c:=sub [1,1,0,1,0,0] B15) ?_
   rcases onw_some h15 with ⟨_,h102,h103⟩ | ⟨r105,h102,h103⟩
   ·
    refine TT.weak (ref13_May.L0_ok hr_ref13_May a0 a0_3 a0_5 a0_6 a1 b1 hE hG hr_a0_6 (((Tree.kids a0).length : Int).toNat + 1) 0 (.inl ()) h102 (?_)) (Sub.cons rfl (Sub.cons rfl (Sub.cons rfl (Sub.nil _))))
    show TT _ _ _ _ _ _ _ _ _
    refine TT.seq (x:=sub [1,1,1,0] B15) (y:=sub [1,1,1,1] B15) ?_
    refine TT.rg [0] [kp] rfl rfl ?_
    refine DL.pu 4 (.bool true) rfl (p_assign rfl rfl) ?_
    refine DL.nil ?_
    obtain rfl:=Option.some.inj h103
    exact retnE (rs:=[.tmp 4]) (vs:=[.bool true]) hE.base Tryd.func15 rfl rfl rfl (res_cons (ResV.tmp rfl) res_nil) rfl
   ·
    obtain rfl:=Option.some.inj h103
    exact TT.weak (ref13_May.L0_ok hr_ref13_May a0 a0_3 a0_5 a0_6 a1 b1 hE hG hr_a0_6 (((Tree.kids a0).length : Int).toNat + 1) 0 (.inr r105) h102 rfl) (Sub.cons rfl (Sub.cons rfl (Sub.cons rfl (Sub.nil _))))
 ·
  by_cases c7 : (decide (a1 < 1)) = true
  ·
   have h8:=ite_true c7 h4
   refine DL.not (i:=3) rfl (Wn.yes c7 rfl rfl rfl rfl) rfl rfl ?_
   refine DL.not (i:=4) rfl (Wn.yes c7 rfl rfl rfl rfl) rfl rfl ?_
   refine DL.not (i:=5) rfl (Wn.yes c7 rfl rfl rfl rfl) rfl rfl ?_
   refine DL.pu 12 (.bool true) rfl (p_pick_t c7 rfl rfl rfl) ?_
   obtain rfl:=Option.some.inj h8
   exact DL.weak J6 (Sub.cons rfl (Sub.cons rfl (Sub.cons rfl (Sub.nil _))))
  ·
   replace c7:=Bool.eq_false_iff.mpr c7
   have h9:=ite_false c7 h4
   refine DL.quiet (v:=.agg (Der.ce a0 a0_3 a0_5 a0_6)) rfl (Wn.no c7 rfl rfl rfl rfl) rfl rfl rfl (f_loadA (j:=0) ty_a27 ty_s27 rfl rfl rfl rfl) ?_
   obtain ⟨t10,h11,h12⟩:=bind_some h9
   refine DL.quiet (v:=.bool t10) rfl (Wn.no c7 rfl rfl rfl rfl) rfl rfl rfl (f_callR rfl rfl (args_val (vs:=[.agg (Der.ce a0 a0_3 a0_5 a0_6)]) rfl) (fun w => enter34 _ w) (fun w hc => ref13_own.val h11 (M:=M) w (hE.ext hc) hG hr_a0_3 hr_a0_5 hr_a0_6)) ?_
   refine DL.pure (v:=.bool (!t10)) rfl (Wn.no c7 rfl rfl rfl rfl) rfl rfl rfl (p_not rfl rfl) ?_
   refine DL.pu 12 (.bool (!t10)) rfl (p_pick_f c7 rfl rfl rfl) ?_
   obtain rfl:=Option.some.inj h12
   exact DL.weak J6 (Sub.cons rfl (Sub.cons rfl (Sub.cons rfl (Sub.nil _))))
theorem ref13_May.valF {r_ref13_May : Der → Int → Option (Bool)} (hr_ref13_May : ref13_May.Rec r_ref13_May) {a0 : Der} {a1 : Int} {a0_3 : Value} {a0_5 : Value} {a0_6 : Value} {r : Bool} (h : ref13_May.F r_ref13_May a0 a1 = some r) {M : Mem} (w : World) (hM : Ext M (heapOf w)) (hG : Glob M) (hr_a0_3 : IntRow M .u8 a0_3 (Der.bytes a0)) (hr_a0_5 : IntRow M .u64 a0_5 (Der.arcs a0)) (hr_a0_6 : RowS ShDer M a0_6 (Tree.kids a0)) : Calls Tryd.prog 15 #[.agg (Der.ce a0 a0_3 a0_5 a0_6),.int .i64 a1] w fun e w' => e = .returned (.bool r) ∧ Below w.heap.size w w' :=
 calls_value (ref13_May.okF hr_ref13_May h w hM hG hr_a0_3 hr_a0_5 hr_a0_6)
def ref13_May.f : Nat → Der → Int → Option (Bool)
 | 0,_,_ => none
 | k + 1,a0,a1 => ref13_May.F (ref13_May.f k) a0 a1
theorem ref13_May.rec : ∀ k,ref13_May.Rec (ref13_May.f k):=by
 intro k
 induction k with
 | zero => intro _ _ _ _ _ _ h; simp [ref13_May.f] at h
 | succ k ih => intro a0 a1 a0_3 a0_5 a0_6 r h M w hM hG hr_a0_3 hr_a0_5 hr_a0_6; exact ref13_May.valF ih h w hM hG hr_a0_3 hr_a0_5 hr_a0_6
theorem ref13_May.ok {k : Nat} {a0 : Der} {a1 : Int} {a0_3 : Value} {a0_5 : Value} {a0_6 : Value} {r : Bool} (h : ref13_May.f k a0 a1 = some r) {M : Mem} (w : World) (hM : Ext M (heapOf w)) (hG : Glob M) (hr_a0_3 : IntRow M .u8 a0_3 (Der.bytes a0)) (hr_a0_5 : IntRow M .u64 a0_5 (Der.arcs a0)) (hr_a0_6 : RowS ShDer M a0_6 (Tree.kids a0)) : Calls Tryd.prog 15 #[.agg (Der.ce a0 a0_3 a0_5 a0_6),.int .i64 a1] w (Post (fun u => u = .bool r) w) :=
 (ref13_May.rec k h w hM hG hr_a0_3 hr_a0_5 hr_a0_6).mono fun e w' ⟨he,hb⟩ => ⟨_,he,rfl,hb⟩
theorem ref13_May.val {k : Nat} {a0 : Der} {a1 : Int} {a0_3 : Value} {a0_5 : Value} {a0_6 : Value} {r : Bool} (h : ref13_May.f k a0 a1 = some r) {M : Mem} (w : World) (hM : Ext M (heapOf w)) (hG : Glob M) (hr_a0_3 : IntRow M .u8 a0_3 (Der.bytes a0)) (hr_a0_5 : IntRow M .u64 a0_5 (Der.arcs a0)) (hr_a0_6 : RowS ShDer M a0_6 (Tree.kids a0)) : Calls Tryd.prog 15 #[.agg (Der.ce a0 a0_3 a0_5 a0_6),.int .i64 a1] w fun e w' => e = .returned (.bool r) ∧ Below w.heap.size w w' :=
 ref13_May.rec k h w hM hG hr_a0_3 hr_a0_5 hr_a0_6

end Go.Proofs.YtjhknfpociahoaaDoor
