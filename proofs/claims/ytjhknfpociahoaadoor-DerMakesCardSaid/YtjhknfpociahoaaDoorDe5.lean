import Derived.Test.YtjhknfpociahoaaDoorDe4
namespace Go.Proofs.YtjhknfpociahoaaDoor
open Go Go.HW Go.RowKit
set_option linter.unusedVariables false
set_option linter.unusedSimpArgs false

/-! ### escutcheon/escutcheonref13.read: function 39 -/
noncomputable def B39 : Code:=bodyOf Tryd.f39
def ref13_read.L0 (a0 : List Int) : Nat → Int → Int → Option (Int)
 | 0,_,_ => none
 | k + 1,x12_27,y_28_0 => if (decide (x12_27 ≤ 10)) = true then ((ref13_tag.f (Der.mk x12_27 false 0 ([] : List Int) ([] : List UInt8) ([] : List Int) ([] : List Der))).bind fun t103 => req ((0 : Int) < (a0.length : Int)) (nm (t103 == (IntKind.i64.wrap (a0.getD ((0 : Int).toNat) 0))) fun t108 => (if t108 = true then (some x12_27) else (some y_28_0)).bind fun j_b26_0_112 => ref13_read.L0 a0 k (IntKind.i64.wrap (x12_27 + 1)) j_b26_0_112)) else (some y_28_0)
set_option maxRecDepth 20000 in
theorem ref13_read.L0_ok (a0 : List Int) (a0_v : Value) (a1 : Int) (b1 : Nat) (t2_1 : Int) (v16 : Value) (b26 : Nat) {R : Ending → World → Prop} {w0 : World} {M0 M I : Mem} {K : List Item} (hE : Env w0 M0 M I) (hr_a0 : IntRow M .u8 a0_v a0) :
  ∀ (k : Nat) (x12_27 : Int) (y_28_0 : Int) (r0_ : Int) (h : ref13_read.L0 a0 k x12_27 y_28_0 = some r0_) (hk : TT Tryd.prog 39 R 139 w0 I K [(0,a0_v),(1,.int .i64 a1),(4,ptr b1 0),(8,.int .i64 t2_1),(10,v16),(11,ptr b26 0)] [(some b26,.cells (#[.int .i64 r0_,.bool false,.int .i64 0,(.slice none 0 0),str ([] : List UInt8),(.slice none 0 0),(.slice none 0 0)]) 27 (0,0)),(some b1,.cells (#[.int .i64 0,.bool false,.int .i64 0,(.slice none 0 0),str ([] : List UInt8),(.slice none 0 0),(.slice none 0 0)]) 27 (0,0))]),
   TT Tryd.prog 39 R 139 w0 I (.code (sub [1,1,1,1,1,0,1,0,0] B39) :: .inLoop (sub [1,1,1,1,1,0,1,0,0] B39) :: .inBlock 0 :: K) [(0,a0_v),(1,.int .i64 a1),(4,ptr b1 0),(8,.int .i64 t2_1),(10,v16),(11,ptr b26 0),(12,.int .i64 x12_27)] [(some b26,.cells (#[.int .i64 y_28_0,.bool false,.int .i64 0,(.slice none 0 0),str ([] : List UInt8),(.slice none 0 0),(.slice none 0 0)]) 27 (0,0)),(some b1,.cells (#[.int .i64 0,.bool false,.int .i64 0,(.slice none 0 0),str ([] : List UInt8),(.slice none 0 0),(.slice none 0 0)]) 27 (0,0))]:=by
 intro k
 induction k with
 | zero => intro x12_27 y_28_0 r0_ h; simp [ref13_read.L0] at h
 | succ k ih =>
  intro x12_27 y_28_0 r0_ h hk
  unfold ref13_read.L0 at h
  refine TT.seq (x:=sub [1,1,1,1,1,0,1,0,0,0] B39) (y:=sub [1,1,1,1,1,0,1,0,0,1] B39) ?_
  refine TT.seq (x:=sub [1,1,1,1,1,0,1,0,0,0,0] B39) (y:=sub [1,1,1,1,1,0,1,0,0,0,1] B39) ?_
  refine TT.rg [0,1] [kp,kp] rfl rfl ?_
  refine DL.mv 34 (.int .i64 x12_27) rfl rfl rfl ?_
  refine DL.pu 35 (.bool (decide (x12_27 ≤ 10))) rfl (p_leq rfl rfl rfl) ?_
  refine DL.nil ?_
  by_cases c100 : (decide (x12_27 ≤ 10)) = true
  ·
   have h101:=ite_true c100 h
   refine TT.cond_true (x:=sub [1,1,1,1,1,0,1,0,0,0,1,0] B39) (y:=sub [1,1,1,1,1,0,1,0,0,0,1,1] B39) rfl c100 ?_
   refine TT.skip ?_
   refine TT.seq (x:=sub [1,1,1,1,1,0,1,0,0,1,0] B39) (y:=sub [1,1,1,1,1,0,1,0,0,1,1] B39) ?_
   refine TT.block (c:=sub [1,1,1,1,1,0,1,0,0,1,0,0] B39) ?_
   refine TT.seq (x:=sub [1,1,1,1,1,0,1,0,0,1,0,0,0] B39) (y:=sub [1,1,1,1,1,0,1,0,0,1,0,0,1] B39) ?_
   refine TT.rgD [0,1,2,3,4,5,6,7] [0,1,3,0,8,24,56,127] [kp,kp,kq,kp,kp,kp,kp,kp] rfl mixed (by kernel_rfl) ?_
   intro w102 hl102 hj102 hz102
   refine DL.mv 38 (.int .i64 x12_27) rfl rfl rfl ?_
   refine DL.pu 39 (.agg #[.int .i64 x12_27,.bool false,.int .i64 0,(.slice none 0 0),str ([] : List UInt8),(.slice none 0 0),(.slice none 0 0)]) rfl (p_build (vs:=[(0,.int .i64 x12_27)]) (fun w => by kernel_rfl) rfl rfl) ?_
   obtain ⟨t103,h104,h105⟩:=bind_some h101
   refine DL.qu 40 (.int .i64 t103) rfl (f_callR rfl rfl (args_val (vs:=[.agg #[.int .i64 x12_27,.bool false,.int .i64 0,(.slice none 0 0),str ([] : List UInt8),(.slice none 0 0),(.slice none 0 0)]]) rfl) (fun w => enter46 _ w) (fun w hc => ref13_tag.val h104 (M:=M) w (hE.ext hc) (IntRow.nil .u8 M) (IntRow.nil .u64 M) (RowS.nil ShDer M))) ?_
   refine DL.mv 41 (a0_v) rfl rfl rfl ?_
   obtain ⟨g106,h107⟩:=req_some h105
   refine DL.pu 42 (elp a0_v ((0 : Int).toNat)) rfl (p_slIx1 ty_u23 ty_s5 (RowV.some hr_a0 (by decide) g106) (by decide) g106 rfl rfl rfl) ?_
   refine DL.imm (v:=.int .u8 (a0.getD ((0 : Int).toNat) 0)) rfl (Wn.none rfl) rfl rfl rfl (i_loadEl (RowV.mono hr_a0 hE.mi) (encl_get .u8 (lt_len (by decide) g106)) ty_a5 rfl rfl) ?_
   refine DL.pu 44 (.int .i64 (IntKind.i64.wrap (a0.getD ((0 : Int).toNat) 0))) rfl (p_conv ty_u5 ty_u3 ⟨_,rfl⟩ rfl rfl) ?_
   obtain ⟨t108,e109,h110⟩:=nm_some h107
   refine DL.pu 45 (.bool t108) rfl (by rw [e109]; exact p_eql rfl rfl rfl) ?_
   refine DL.nil' hl102 ?_
   obtain ⟨j_b26_0_112,h113,h114⟩:=bind_some h110
   have J115 : TT Tryd.prog 39 R 139 w0 I (.inBlock 1 :: .code (sub [1,1,1,1,1,0,1,0,0,1,1] B39) :: .inLoop (sub [1,1,1,1,1,0,1,0,0] B39) :: .inBlock 0 :: K) [(0,a0_v),(1,.int .i64 a1),(4,ptr b1 0),(8,.int .i64 t2_1),(10,v16),(11,ptr b26 0),(12,.int .i64 x12_27)] [(some b26,.cells (#[.int .i64 j_b26_0_112,.bool false,.int .i64 0,(.slice none 0 0),str ([] : List UInt8),(.slice none 0 0),(.slice none 0 0)]) 27 (0,0)),(some b1,.cells (#[.int .i64 0,.bool false,.int .i64 0,(.slice none 0 0),str ([] : List UInt8),(.slice none 0 0),(.slice none 0 0)]) 27 (0,0))]:=by
    refine TT.inBlock ?_
    refine TT.rg [0,1,2] [kp,kp,kp] rfl rfl ?_
    refine DL.mv 36 (.int .i64 x12_27) rfl rfl rfl ?_
    refine DL.pu 37 (.int .i64 (IntKind.i64.wrap (x12_27 + 1))) rfl (p_add rfl rfl rfl) ?_
    refine DL.pu 12 (.int .i64 (IntKind.i64.wrap (x12_27 + 1))) rfl (p_assign rfl rfl) ?_
    refine DL.nil ?_
    refine TT.inLoop ?_
    exact TT.weak (ih (IntKind.i64.wrap (x12_27 + 1)) j_b26_0_112 r0_ h114 hk) (Sub.cons rfl (Sub.cons rfl (Sub.cons rfl (Sub.cons rfl (Sub.cons rfl (Sub.cons rfl (Sub.cons rfl (Sub.nil _))))))))
   by_cases c111 : t108 = true
   ·
    have h117:=ite_true c111 h113
    refine TT.cond_true (x:=sub [1,1,1,1,1,0,1,0,0,1,0,0,1,0] B39) (y:=sub [1,1,1,1,1,0,1,0,0,1,0,0,1,1] B39) rfl c111 ?_
    refine TT.rg [0,1,2] [kp,kp,(.store,none)] rfl rfl ?_
    refine DL.mv 46 (.int .i64 x12_27) rfl rfl rfl ?_
    refine DL.pu 47 (ptr b26 0) rfl (p_fieldAddr ty_f27_0 rfl rfl) ?_
    refine DL.put (H':=[(some b26,.cells (#[.int .i64 x12_27,.bool false,.int .i64 0,(.slice none 0 0),str ([] : List UInt8),(.slice none 0 0),(.slice none 0 0)]) 27 (0,0)),(some b1,.cells (#[.int .i64 0,.bool false,.int .i64 0,(.slice none 0 0),str ([] : List UInt8),(.slice none 0 0),(.slice none 0 0)]) 27 (0,0))]) (i:=2) rfl (Wn.none rfl) rfl rfl (f_store (c:=#[.int .i64 y_28_0,.bool false,.int .i64 0,(.slice none 0 0),str ([] : List UInt8),(.slice none 0 0),(.slice none 0 0)]) (v:=.int .i64 x12_27) (off:=0) (j:=0) ty_s22 rfl rfl (of_decide_eq_true rfl) trivial rfl rfl rfl) (keep_none rfl) ?_
    refine DL.nil ?_
    obtain rfl:=Option.some.inj h117
    exact TT.weak (J115 ) (Sub.cons rfl (Sub.cons rfl (Sub.cons rfl (Sub.cons rfl (Sub.cons rfl (Sub.cons rfl (Sub.cons rfl (Sub.nil _))))))))
   ·
    replace c111:=Bool.eq_false_iff.mpr c111
    have h118:=ite_false c111 h113
    refine TT.cond_false (x:=sub [1,1,1,1,1,0,1,0,0,1,0,0,1,0] B39) (y:=sub [1,1,1,1,1,0,1,0,0,1,0,0,1,1] B39) rfl c111 ?_
    refine TT.skip ?_
    obtain rfl:=Option.some.inj h118
    exact TT.weak (J115 ) (Sub.cons rfl (Sub.cons rfl (Sub.cons rfl (Sub.cons rfl (Sub.cons rfl (Sub.cons rfl (Sub.cons rfl (Sub.nil _))))))))
  ·
   replace c100:=Bool.eq_false_iff.mpr c100
   have h119:=ite_false c100 h
   refine TT.cond_false (x:=sub [1,1,1,1,1,0,1,0,0,0,1,0] B39) (y:=sub [1,1,1,1,1,0,1,0,0,0,1,1] B39) rfl c100 ?_
   refine TT.exit rfl ?_
   obtain rfl:=Option.some.inj h119
   exact TT.weak (hk) (Sub.cons rfl (Sub.cons rfl (Sub.cons rfl (Sub.cons rfl (Sub.cons rfl (Sub.cons rfl (Sub.nil _)))))))

def ref13_read.L1 (r_ref13_read : (List Int) → Int → Option (Der × Int × Bool)) (a1 : Int) (j_b26_0_134 : Int) (j_b26_2_135 : Int) : Nat → (List Der) → (List Int) → Option ((List Der) ⊕ (Der × Int × Bool))
 | 0,_,_ => none
 | k + 1,y_228,x10_229 => if (decide (0 < (x10_229.length : Int))) = true then ((r_ref13_read x10_229 (IntKind.i64.wrap (a1 - 1))).bind fun (t306_0,t306_1,t306_2) => if (!t306_2) = true then (some (.inr (Der.mk j_b26_0_134 false j_b26_2_135 ([] : List Int) ([] : List UInt8) ([] : List Int) y_228,0,false))) else (req (y_228.length + [t306_0].length ≤ 1099511627776) (req (0 ≤ t306_1) (req (t306_1 ≤ (x10_229.length : Int)) (ref13_read.L1 r_ref13_read a1 j_b26_0_134 j_b26_2_135 k (y_228 ++ [t306_0]) (x10_229.drop t306_1.toNat)))))) else (some (.inl y_228))
set_option maxRecDepth 20000 in
theorem ref13_read.L1_ok {r_ref13_read : (List Int) → Int → Option (Der × Int × Bool)} (hr_ref13_read : ref13_read.Rec r_ref13_read) (a1 : Int) (b1 : Nat) (t2_1 : Int) (b26 : Nat) (j_b26_0_134 : Int) (j_b26_2_135 : Int) {r_0 : Der} {r_1 : Int} {r_2 : Bool}  {w0 : World} {M0 Mb : Mem} {K : List Item} :
  ∀ (k : Nat) (M I : Mem) (hE : Env w0 M0 M I) (hx : Ext Mb M) (y_228 : List Der) (x10_229 : List Int) (y_228_v : Value) (y_228_c : Array Value) (x10_229_v : Value) (q : (List Der) ⊕ (Der × Int × Bool)) (ho_y_228 : OwnS ShDer M y_228_v y_228_c y_228) (hr_x10_229 : IntRow M .u8 x10_229_v x10_229) (h : ref13_read.L1 r_ref13_read a1 j_b26_0_134 j_b26_2_135 k y_228 x10_229 = some q) (hk : match (generalizing:=false) q with | .inl r0_ => (∀ (M' I' : Mem),Env w0 M0 M' I' → Ext Mb M' → ∀ (z_o227_303_v : Value),∀ (z_o227_303_c : Array Value),OwnS ShDer M' z_o227_303_v z_o227_303_c r0_ → TT Tryd.prog 39 (PostF (G:=Value × Value × Value) (fun g => .tuple #[.agg (Der.ce r_0 (g.1) (g.2.1) (g.2.2)),.int .i64 r_1,.bool r_2]) (fun g M_ => (IntRow M_ .u8 (g.1) (Der.bytes r_0)) ∧ (IntRow M_ .u64 (g.2.1) (Der.arcs r_0)) ∧ (RowS ShDer M_ (g.2.2) (Tree.kids r_0))) M0 w0) 139 w0 I' K [(4,ptr b1 0),(8,.int .i64 t2_1),(11,ptr b26 0)] [(Value.ownBlock z_o227_303_v,.cells z_o227_303_c 27 (0,0)),(some b26,.cells (#[.int .i64 j_b26_0_134,.bool false,.int .i64 j_b26_2_135,(.slice none 0 0),str ([] : List UInt8),(.slice none 0 0),z_o227_303_v]) 27 (0,0)),(some b1,.cells (#[.int .i64 0,.bool false,.int .i64 0,(.slice none 0 0),str ([] : List UInt8),(.slice none 0 0),(.slice none 0 0)]) 27 (0,0))]) | .inr (r_0q,r_1q,r_2q) => (r_0q,r_1q,r_2q) = (r_0,r_1,r_2)),
   TT Tryd.prog 39 (PostF (G:=Value × Value × Value) (fun g => .tuple #[.agg (Der.ce r_0 (g.1) (g.2.1) (g.2.2)),.int .i64 r_1,.bool r_2]) (fun g M_ => (IntRow M_ .u8 (g.1) (Der.bytes r_0)) ∧ (IntRow M_ .u64 (g.2.1) (Der.arcs r_0)) ∧ (RowS ShDer M_ (g.2.2) (Tree.kids r_0))) M0 w0) 139 w0 I (.code (sub [1,1,1,1,1,1,1,0,1,0,1,1,1,1,1,1,1,1,1,1,1,1,1,0,0,0] B39) :: .inLoop (sub [1,1,1,1,1,1,1,0,1,0,1,1,1,1,1,1,1,1,1,1,1,1,1,0,0,0] B39) :: .inBlock 3 :: K) [(1,.int .i64 a1),(4,ptr b1 0),(8,.int .i64 t2_1),(10,x10_229_v),(11,ptr b26 0)] [(Value.ownBlock y_228_v,.cells y_228_c 27 (0,0)),(some b26,.cells (#[.int .i64 j_b26_0_134,.bool false,.int .i64 j_b26_2_135,(.slice none 0 0),str ([] : List UInt8),(.slice none 0 0),y_228_v]) 27 (0,0)),(some b1,.cells (#[.int .i64 0,.bool false,.int .i64 0,(.slice none 0 0),str ([] : List UInt8),(.slice none 0 0),(.slice none 0 0)]) 27 (0,0))]:=by
 intro k
 induction k with
 | zero => intro M I hE hx y_228 x10_229 y_228_v y_228_c x10_229_v q ho_y_228 hr_x10_229 h; simp [ref13_read.L1] at h
 | succ k ih =>
  intro M I hE hx y_228 x10_229 y_228_v y_228_c x10_229_v q ho_y_228 hr_x10_229 h hk
  unfold ref13_read.L1 at h
  refine TT.seq (x:=sub [1,1,1,1,1,1,1,0,1,0,1,1,1,1,1,1,1,1,1,1,1,1,1,0,0,0,0] B39) (y:=sub [1,1,1,1,1,1,1,0,1,0,1,1,1,1,1,1,1,1,1,1,1,1,1,0,0,0,1] B39) ?_
  refine TT.seq (x:=sub [1,1,1,1,1,1,1,0,1,0,1,1,1,1,1,1,1,1,1,1,1,1,1,0,0,0,0,0] B39) (y:=sub [1,1,1,1,1,1,1,0,1,0,1,1,1,1,1,1,1,1,1,1,1,1,1,0,0,0,0,1] B39) ?_
  refine TT.rg [0,1,2] [kp,kp,kp] rfl rfl ?_
  refine DL.mv 111 (x10_229_v) rfl rfl rfl ?_
  refine DL.pu 112 (.int .i64 (x10_229.length : Int)) rfl (p_slLen ty_u23 (RowV.sl hr_x10_229) rfl rfl) ?_
  refine DL.pu 113 (.bool (decide (0 < (x10_229.length : Int)))) rfl (p_gtr rfl rfl rfl) ?_
  refine DL.nil ?_
  by_cases c304 : (decide (0 < (x10_229.length : Int))) = true
  ·
   have h305:=ite_true c304 h
   refine TT.cond_true (x:=sub [1,1,1,1,1,1,1,0,1,0,1,1,1,1,1,1,1,1,1,1,1,1,1,0,0,0,0,1,0] B39) (y:=sub [1,1,1,1,1,1,1,0,1,0,1,1,1,1,1,1,1,1,1,1,1,1,1,0,0,0,0,1,1] B39) rfl c304 ?_
   refine TT.skip ?_
   refine TT.block (c:=sub [1,1,1,1,1,1,1,0,1,0,1,1,1,1,1,1,1,1,1,1,1,1,1,0,0,0,1,0] B39) ?_
   refine TT.seq (x:=sub [1,1,1,1,1,1,1,0,1,0,1,1,1,1,1,1,1,1,1,1,1,1,1,0,0,0,1,0,0] B39) (y:=sub [1,1,1,1,1,1,1,0,1,0,1,1,1,1,1,1,1,1,1,1,1,1,1,0,0,0,1,0,1] B39) ?_
   refine TT.rg [0,1,2,3,4,5,6,7,8,9,10,11] [kp,kp,kp,kk,kp,kp,kp,kp,(.alloc,none),(.store,none),kp,kp] rfl rfl ?_
   refine DL.mv 115 (x10_229_v) rfl rfl rfl ?_
   refine DL.mv 116 (.int .i64 a1) rfl rfl rfl ?_
   refine DL.pu 117 (.int .i64 (IntKind.i64.wrap (a1 - 1))) rfl (p_sub rfl rfl rfl) ?_
   obtain ⟨⟨t306_0,t306_1,t306_2⟩,h307,h308⟩:=bind_some h305
   refine DL.callF (G:=Value × Value × Value) (u:=fun g => .tuple #[.agg (Der.ce t306_0 (g.1) (g.2.1) (g.2.2)),.int .i64 t306_1,.bool t306_2]) (Q:=fun g M_ => (IntRow M_ .u8 (g.1) (Der.bytes t306_0)) ∧ (IntRow M_ .u64 (g.2.1) (Der.arcs t306_0)) ∧ (RowS ShDer M_ (g.2.2) (Tree.kids t306_0))) (A:=[(Value.ownBlock y_228_v,.cells y_228_c 27 (0,0)),(some b26,.cells (#[.int .i64 j_b26_0_134,.bool false,.int .i64 j_b26_2_135,(.slice none 0 0),str ([] : List UInt8),(.slice none 0 0),y_228_v]) 27 (0,0)),(some b1,.cells (#[.int .i64 0,.bool false,.int .i64 0,(.slice none 0 0),str ([] : List UInt8),(.slice none 0 0),(.slice none 0 0)]) 27 (0,0))]) (J:=[]) (fun J309 => ((Value.ownBlock y_228_v,.cells y_228_c 27 (0,0)) :: (some b26,.cells (#[.int .i64 j_b26_0_134,.bool false,.int .i64 j_b26_2_135,(.slice none 0 0),str ([] : List UInt8),(.slice none 0 0),y_228_v]) 27 (0,0)) :: (some b1,.cells (#[.int .i64 0,.bool false,.int .i64 0,(.slice none 0 0),str ([] : List UInt8),(.slice none 0 0),(.slice none 0 0)]) 27 (0,0)) :: J309)) (Nat.le_refl _) hE.nil (List.append_nil _).symm (fun _ => rfl) (by simp) (i:=3) rfl (Wn.none rfl) rfl rfl rfl rfl rfl rfl (args_val (vs:=[x10_229_v,.int .i64 (IntKind.i64.wrap (a1 - 1))]) rfl) (fun w => enter39 _ w) (fun w hc hI => hr_ref13_read h307 (M:=M) w hI hr_x10_229) ?_
   rintro ⟨t306_0_3,t306_0_5,t306_0_6⟩ M309 J309 hE309 hx309 ⟨hr_t306_0_3,hr_t306_0_5,hr_t306_0_6⟩
   show DL _ _ _ _ _ _ _ _ _ _ _ _ ((Value.ownBlock y_228_v,.cells y_228_c 27 (0,0)) :: (some b26,.cells (#[.int .i64 j_b26_0_134,.bool false,.int .i64 j_b26_2_135,(.slice none 0 0),str ([] : List UInt8),(.slice none 0 0),y_228_v]) 27 (0,0)) :: (some b1,.cells (#[.int .i64 0,.bool false,.int .i64 0,(.slice none 0 0),str ([] : List UInt8),(.slice none 0 0),(.slice none 0 0)]) 27 (0,0)) :: J309)
   refine DL.mv 114 (.tuple #[.agg (Der.ce t306_0 t306_0_3 t306_0_5 t306_0_6),.int .i64 t306_1,.bool t306_2]) rfl rfl rfl ?_
   refine DL.pu 119 (.agg (Der.ce t306_0 t306_0_3 t306_0_5 t306_0_6)) rfl (p_extract rfl rfl rfl) ?_
   refine DL.pu 120 (.int .i64 t306_1) rfl (p_extract rfl rfl rfl) ?_
   refine DL.pu 121 (.bool t306_2) rfl (p_extract rfl rfl rfl) ?_
   refine DL.new (ob:=.cells (#[.int .i64 0,.bool false,.int .i64 0,(.slice none 0 0),str ([] : List UInt8),(.slice none 0 0),(.slice none 0 0)]) 27) (mk:=fun b => ptr b 0) (i:=8) rfl (Wn.none rfl) rfl rfl rfl (f_alloc ty_z27 rfl) ?_
   intro b310 hb310
   refine DL.put (H':=((some b310,.cells ((Der.ce t306_0 t306_0_3 t306_0_5 t306_0_6)) 27 (0,0)) :: (Value.ownBlock y_228_v,.cells y_228_c 27 (0,0)) :: (some b26,.cells (#[.int .i64 j_b26_0_134,.bool false,.int .i64 j_b26_2_135,(.slice none 0 0),str ([] : List UInt8),(.slice none 0 0),y_228_v]) 27 (0,0)) :: (some b1,.cells (#[.int .i64 0,.bool false,.int .i64 0,(.slice none 0 0),str ([] : List UInt8),(.slice none 0 0),(.slice none 0 0)]) 27 (0,0)) :: J309)) (i:=9) rfl (Wn.none rfl) rfl rfl (f_storeA (j:=0) ty_s27 rfl rfl rfl (one_cons trivial (one_cons trivial (one_cons trivial (one_cons (sl_one (RowV.sl hr_t306_0_3)) (one_cons trivial (one_cons (sl_one (RowV.sl hr_t306_0_5)) (one_cons (sl_one (RowS.sl hr_t306_0_6)) one_nil))))))) rfl rfl rfl) (keep_none rfl) ?_
   refine DL.pu 14 (.int .i64 t306_1) rfl (p_assign rfl rfl) ?_
   refine DL.pu 15 (.bool t306_2) rfl (p_assign rfl rfl) ?_
   refine DL.nil ?_
   refine TT.settle (A:=[(some b310,.cells ((Der.ce t306_0 t306_0_3 t306_0_5 t306_0_6)) 27 (0,0)),(Value.ownBlock y_228_v,.cells y_228_c 27 (0,0)),(some b26,.cells (#[.int .i64 j_b26_0_134,.bool false,.int .i64 j_b26_2_135,(.slice none 0 0),str ([] : List UInt8),(.slice none 0 0),y_228_v]) 27 (0,0)),(some b1,.cells (#[.int .i64 0,.bool false,.int .i64 0,(.slice none 0 0),str ([] : List UInt8),(.slice none 0 0),(.slice none 0 0)]) 27 (0,0))]) (J:=J309) hE309 ?_
   intro I311 hE311 hxI311
   refine TT.seq (x:=sub [1,1,1,1,1,1,1,0,1,0,1,1,1,1,1,1,1,1,1,1,1,1,1,0,0,0,1,0,1,0] B39) (y:=sub [1,1,1,1,1,1,1,0,1,0,1,1,1,1,1,1,1,1,1,1,1,1,1,0,0,0,1,0,1,1] B39) ?_
   refine TT.seq (x:=sub [1,1,1,1,1,1,1,0,1,0,1,1,1,1,1,1,1,1,1,1,1,1,1,0,0,0,1,0,1,0,0] B39) (y:=sub [1,1,1,1,1,1,1,0,1,0,1,1,1,1,1,1,1,1,1,1,1,1,1,0,0,0,1,0,1,0,1] B39) ?_
   refine TT.rg [0,1] [kp,kp] rfl rfl ?_
   refine DL.mv 122 (.bool t306_2) rfl rfl rfl ?_
   refine DL.pu 123 (.bool (!t306_2)) rfl (p_not rfl rfl) ?_
   refine DL.nil ?_
   by_cases c312 : (!t306_2) = true
   ·
    have h313:=ite_true c312 h308
    refine TT.cond_true (x:=sub [1,1,1,1,1,1,1,0,1,0,1,1,1,1,1,1,1,1,1,1,1,1,1,0,0,0,1,0,1,0,1,0] B39) (y:=sub [1,1,1,1,1,1,1,0,1,0,1,1,1,1,1,1,1,1,1,1,1,1,1,0,0,0,1,0,1,0,1,1] B39) rfl c312 ?_
    refine TT.seq (x:=sub [1,1,1,1,1,1,1,0,1,0,1,1,1,1,1,1,1,1,1,1,1,1,1,0,0,0,1,0,1,0,1,0,0] B39) (y:=sub [1,1,1,1,1,1,1,0,1,0,1,1,1,1,1,1,1,1,1,1,1,1,1,0,0,0,1,0,1,0,1,0,1] B39) ?_
    refine TT.rg [0,1,2,3] [kq,(.store,none),kp,kp] rfl rfl ?_
    refine DL.qu 124 (.agg #[.int .i64 j_b26_0_134,.bool false,.int .i64 j_b26_2_135,(.slice none 0 0),str ([] : List UInt8),(.slice none 0 0),y_228_v]) rfl (f_loadA (j:=2) ty_a27 ty_s27 rfl rfl rfl rfl) ?_
    refine DL.put (H':=[(some b310,.cells ((Der.ce t306_0 t306_0_3 t306_0_5 t306_0_6)) 27 (0,0)),(Value.ownBlock y_228_v,.cells y_228_c 27 (0,0)),(some b26,.cells (#[.int .i64 j_b26_0_134,.bool false,.int .i64 j_b26_2_135,(.slice none 0 0),str ([] : List UInt8),(.slice none 0 0),y_228_v]) 27 (0,0)),(some b1,.cells (#[.int .i64 j_b26_0_134,.bool false,.int .i64 j_b26_2_135,(.slice none 0 0),str ([] : List UInt8),(.slice none 0 0),y_228_v]) 27 (0,0))]) (i:=1) rfl (Wn.none rfl) rfl rfl (f_storeA (j:=3) ty_s27 rfl rfl rfl (one_cons trivial (one_cons trivial (one_cons trivial (one_cons (sl_one (RowV.sl (IntRow.nil .u8 M309))) (one_cons trivial (one_cons (sl_one (RowV.sl (IntRow.nil .u64 M309))) (one_cons (sl_one (OwnS.sl (OwnS.mono ho_y_228 hx309))) one_nil))))))) rfl rfl rfl) (keep_none rfl) ?_
    refine DL.pu 5 (.int .i64 0) rfl (p_assign rfl rfl) ?_
    refine DL.pu 6 (.bool false) rfl (p_assign rfl rfl) ?_
    refine DL.nil ?_
    refine TT.freezeAt (j:=1) hE311 rfl ?_
    intro M314 I314 hE314 hx314 hxI314 hb314
    have hr_314 : RowS ShDer M314 y_228_v y_228:=OwnS.stays (OwnS.mono ho_y_228 hx309) hx314 hb314
    show TT _ _ _ _ _ _ _ _ [(some b310,.cells ((Der.ce t306_0 t306_0_3 t306_0_5 t306_0_6)) 27 (0,0)),(some b26,.cells (#[.int .i64 j_b26_0_134,.bool false,.int .i64 j_b26_2_135,(.slice none 0 0),str ([] : List UInt8),(.slice none 0 0),y_228_v]) 27 (0,0)),(some b1,.cells (#[.int .i64 j_b26_0_134,.bool false,.int .i64 j_b26_2_135,(.slice none 0 0),str ([] : List UInt8),(.slice none 0 0),y_228_v]) 27 (0,0))]
    obtain rfl:=Option.some.inj h313
    have k315 : (Der.mk j_b26_0_134 false j_b26_2_135 ([] : List Int) ([] : List UInt8) ([] : List Int) y_228,0,false) = (r_0,r_1,r_2):=hk
    simp only [Prod.mk.injEq] at k315
    obtain ⟨rfl,rfl,rfl⟩:=k315
    exact retF (rs:=[.cell 4 27,.tmp 5,.tmp 6]) (vs:=[.agg #[.int .i64 j_b26_0_134,.bool false,.int .i64 j_b26_2_135,(.slice none 0 0),str ([] : List UInt8),(.slice none 0 0),y_228_v],.int .i64 0,.bool false]) ((.slice none 0 0),(.slice none 0 0),y_228_v) hE314 Tryd.func39 rfl rfl rfl (res_cons (ResV.cell (j:=2) ty_a27 ty_s27 rfl rfl rfl) (res_cons (ResV.tmp rfl) (res_cons (ResV.tmp rfl) res_nil))) ⟨(IntRow.nil .u8 M314),(IntRow.nil .u64 M314),hr_314⟩
   ·
    replace c312:=Bool.eq_false_iff.mpr c312
    have h316:=ite_false c312 h308
    refine TT.cond_false (x:=sub [1,1,1,1,1,1,1,0,1,0,1,1,1,1,1,1,1,1,1,1,1,1,1,0,0,0,1,0,1,0,1,0] B39) (y:=sub [1,1,1,1,1,1,1,0,1,0,1,1,1,1,1,1,1,1,1,1,1,1,1,0,0,0,1,0,1,0,1,1] B39) rfl c312 ?_
    refine TT.skip ?_
    refine TT.seq (x:=sub [1,1,1,1,1,1,1,0,1,0,1,1,1,1,1,1,1,1,1,1,1,1,1,0,0,0,1,0,1,1,0] B39) (y:=sub [1,1,1,1,1,1,1,0,1,0,1,1,1,1,1,1,1,1,1,1,1,1,1,0,0,0,1,0,1,1,1] B39) ?_
    refine TT.rg [0,1,2,3,4,5,6] [kp,kq,kq,(.alloc,none),kx,kp,(.store,none)] rfl rfl ?_
    refine DL.pu 125 (ptr b26 6) rfl (p_fieldAddr ty_f27_6 rfl rfl) ?_
    refine DL.qu 126 (y_228_v) rfl (f_load (j:=2) ty_a25 rfl rfl rfl rfl) ?_
    refine DL.qu 127 (.agg (Der.ce t306_0 t306_0_3 t306_0_5 t306_0_6)) rfl (f_loadA (j:=0) ty_a27 ty_s27 rfl rfl rfl rfl) ?_
    refine DL.newS (M:=M309) (s:=ShDer) (zs:=[t306_0]) (cells:=[.int .i64 (Der.kind t306_0),.bool (Der.flag t306_0),.int .i64 (Der.num t306_0),t306_0_3,str (Der.text t306_0),t306_0_5,t306_0_6]) (n:=1) rfl (by decide) rfl (fun i x hx => by match i,hx with | 0,hx => cases hx; exact (Der.cl (t:=t306_0) hr_t306_0_3 hr_t306_0_5 hr_t306_0_6) | k + 1,hx => simp at hx) (i:=3) rfl (Wn.none rfl) rfl rfl rfl (f_buildS (n:=1) (vs:=[(0,.agg (Der.ce t306_0 t306_0_3 t306_0_5 t306_0_6))]) elem25 rfl rfl (by kernel_rfl) rfl (args_val2 rfl)) ?_
    intro s318_v s318_c ho_s318
    obtain ⟨g319,h320⟩:=req_some h316
    refine DL.appendS (M:=M309) (s:=ShDer) (fun s321_v s321_c => [(Value.ownBlock s318_v,.cells s318_c 27 (0,0)),(some b310,.cells ((Der.ce t306_0 t306_0_3 t306_0_5 t306_0_6)) 27 (0,0)),(Value.ownBlock s321_v,.cells s321_c 27 (0,0)),(some b26,.cells (#[.int .i64 j_b26_0_134,.bool false,.int .i64 j_b26_2_135,(.slice none 0 0),str ([] : List UInt8),(.slice none 0 0),y_228_v]) 27 (0,0)),(some b1,.cells (#[.int .i64 0,.bool false,.int .i64 0,(.slice none 0 0),str ([] : List UInt8),(.slice none 0 0),(.slice none 0 0)]) 27 (0,0))]) elem25 (j:=2) rfl (OwnS.mono ho_y_228 hx309) g319 (by decide) (OwnS.src (i:=0) ho_s318 rfl) (i:=4) rfl (Wn.none rfl) rfl rfl rfl rfl rfl rfl (fun _ _ => rfl) ?_
    intro s321_v s321_c ho_s321
    show DL _ _ _ _ _ _ _ _ _ _ _ _ [(Value.ownBlock s318_v,.cells s318_c 27 (0,0)),(some b310,.cells ((Der.ce t306_0 t306_0_3 t306_0_5 t306_0_6)) 27 (0,0)),(Value.ownBlock s321_v,.cells s321_c 27 (0,0)),(some b26,.cells (#[.int .i64 j_b26_0_134,.bool false,.int .i64 j_b26_2_135,(.slice none 0 0),str ([] : List UInt8),(.slice none 0 0),y_228_v]) 27 (0,0)),(some b1,.cells (#[.int .i64 0,.bool false,.int .i64 0,(.slice none 0 0),str ([] : List UInt8),(.slice none 0 0),(.slice none 0 0)]) 27 (0,0))]
    refine DL.pu 130 (ptr b26 6) rfl (p_fieldAddr ty_f27_6 rfl rfl) ?_
    refine DL.put (H':=[(Value.ownBlock s318_v,.cells s318_c 27 (0,0)),(some b310,.cells ((Der.ce t306_0 t306_0_3 t306_0_5 t306_0_6)) 27 (0,0)),(Value.ownBlock s321_v,.cells s321_c 27 (0,0)),(some b26,.cells (#[.int .i64 j_b26_0_134,.bool false,.int .i64 j_b26_2_135,(.slice none 0 0),str ([] : List UInt8),(.slice none 0 0),s321_v]) 27 (0,0)),(some b1,.cells (#[.int .i64 0,.bool false,.int .i64 0,(.slice none 0 0),str ([] : List UInt8),(.slice none 0 0),(.slice none 0 0)]) 27 (0,0))]) (i:=6) rfl (Wn.none rfl) rfl rfl (f_store (c:=#[.int .i64 j_b26_0_134,.bool false,.int .i64 j_b26_2_135,(.slice none 0 0),str ([] : List UInt8),(.slice none 0 0),y_228_v]) (v:=s321_v) (off:=6) (j:=3) ty_s25 rfl (sl_cells (OwnS.sl ho_s321)) (of_decide_eq_true rfl) (sl_one (OwnS.sl ho_s321)) rfl rfl rfl) (keep_none rfl) ?_
    refine DL.nil ?_
    refine TT.rg [0,1,2,3] [kp,kp,kp,kp] rfl rfl ?_
    refine DL.mv 131 (x10_229_v) rfl rfl rfl ?_
    refine DL.mv 132 (.int .i64 t306_1) rfl rfl rfl ?_
    obtain ⟨g323,h324⟩:=req_some h320
    obtain ⟨g325,h326⟩:=req_some h324
    obtain ⟨v322,v322_e⟩ : ∃ u,u = subsl x10_229_v 1 t306_1.toNat x10_229.length:=⟨_,rfl⟩
    have hr_v322 : IntRow M309 .u8 v322 (x10_229.drop t306_1.toNat):=by rw [v322_e]; exact (IntRow.subL (IntRow.mono hr_x10_229 hx309) (toNat_le g325))
    refine DL.pu 133 (v322) rfl (by rw [v322_e]; exact p_subL ty_u23 ty_s5 (IntRow.mono hr_x10_229 hx309) g323 g325 rfl rfl rfl) ?_
    refine DL.pu 10 (v322) rfl (p_assign rfl rfl) ?_
    refine DL.nil ?_
    refine TT.inBlock ?_
    refine TT.inLoop ?_
    exact TT.pick [2,3,4] (by decide) (TT.weak (ih M309 I311 hE311 (hx.trans hx309) (y_228 ++ [t306_0]) (x10_229.drop t306_1.toNat) s321_v s321_c v322 _ ho_s321 hr_v322 h326 hk) (Sub.cons rfl (Sub.cons rfl (Sub.cons rfl (Sub.cons rfl (Sub.cons rfl (Sub.nil _)))))))
  ·
   replace c304:=Bool.eq_false_iff.mpr c304
   have h327:=ite_false c304 h
   refine TT.cond_false (x:=sub [1,1,1,1,1,1,1,0,1,0,1,1,1,1,1,1,1,1,1,1,1,1,1,0,0,0,0,1,0] B39) (y:=sub [1,1,1,1,1,1,1,0,1,0,1,1,1,1,1,1,1,1,1,1,1,1,1,0,0,0,0,1,1] B39) rfl c304 ?_
   refine TT.exit rfl ?_
   obtain rfl:=Option.some.inj h327
   exact TT.weak (hk M I hE hx y_228_v y_228_c ho_y_228) (Sub.cons rfl (Sub.cons rfl (Sub.cons rfl (Sub.nil _))))

def ref13_read.F (r_ref13_read : (List Int) → Int → Option (Der × Int × Bool)) (a0 : List Int) (a1 : Int) : Option (Der × Int × Bool):=(ref13_head.f a0).bind fun (t2_0,t2_1,t2_2) => (if (!t2_2) = true then (some true) else (some (decide (a1 < 1)))).bind fun q6 => if q6 = true then (some (Der.mk 0 false 0 ([] : List Int) ([] : List UInt8) ([] : List Int) ([] : List Der),0,false)) else (req (0 ≤ t2_0) (req (t2_0 ≤ t2_1) (req (t2_1 ≤ (a0.length : Int)) (nm ((a0.drop t2_0.toNat).take (t2_1.toNat - t2_0.toNat)) fun t23 => (ref13_read.L0 a0 11 1 0).bind fun z_b26_0_99 => req ((0 : Int) < (a0.length : Int)) ((if (decide (160 ≤ (a0.getD ((0 : Int).toNat) 0))) = true then (some (decide ((a0.getD ((0 : Int).toNat) 0) ≤ 190))) else (some false)).bind fun q126 => (if q126 = true then (nm (IntKind.i64.wrap ((IntKind.i64.wrap (a0.getD ((0 : Int).toNat) 0)) - 160)) fun t142 => some (8,t142)) else (some (z_b26_0_99,0))).bind fun (j_b26_0_134,j_b26_2_135) => if (j_b26_0_134 == 1) = true then ((if ((t23.length : Int) == 1) = true then (req ((0 : Int) < (t23.length : Int)) (some ((t23.getD ((0 : Int).toNat) 0) == 255))) else (some false)).bind fun q149 => some (Der.mk j_b26_0_134 q149 j_b26_2_135 ([] : List Int) ([] : List UInt8) ([] : List Int) ([] : List Der),t2_1,j_b26_0_134 != 0)) else (if (j_b26_0_134 == 2) = true then ((ref13_number.f t23).bind fun t162 => some (Der.mk j_b26_0_134 false t162 ([] : List Int) ([] : List UInt8) ([] : List Int) ([] : List Der),t2_1,j_b26_0_134 != 0)) else (if (j_b26_0_134 == 3) = true then ((if (decide (0 < (t23.length : Int))) = true then (req ((1 : Int) ≤ (t23.length : Int)) (some (t23.drop (1 : Int).toNat))) else (some ([] : List Int))).bind fun j_b26_3_170 => some (Der.mk j_b26_0_134 false j_b26_2_135 j_b26_3_170 ([] : List UInt8) ([] : List Int) ([] : List Der),t2_1,j_b26_0_134 != 0)) else (if (j_b26_0_134 == 4) = true then (some (Der.mk j_b26_0_134 false j_b26_2_135 t23 ([] : List UInt8) ([] : List Int) ([] : List Der),t2_1,j_b26_0_134 != 0)) else (if (j_b26_0_134 == 5) = true then ((ref13_arcs.f t23).bind fun t188 => req (t188.length ≤ 1099511627776) (some (Der.mk j_b26_0_134 false j_b26_2_135 ([] : List Int) ([] : List UInt8) t188 ([] : List Der),t2_1,j_b26_0_134 != 0))) else ((if (j_b26_0_134 == 6) = true then (some (j_b26_0_134 == 6)) else (some (j_b26_0_134 == 10))).bind fun j101_198 => if j101_198 = true then (some (Der.mk j_b26_0_134 false j_b26_2_135 ([] : List Int) (bytesL t23) ([] : List Int) ([] : List Der),t2_1,j_b26_0_134 != 0)) else ((if (j_b26_0_134 == 7) = true then (some (j_b26_0_134 == 7)) else ((if (j_b26_0_134 == 9) = true then (some (j_b26_0_134 == 9)) else (some (j_b26_0_134 == 8))).bind fun j107_218 => some j107_218)).bind fun j107_210 => if j107_210 = true then (onw (ref13_read.L1 r_ref13_read a1 j_b26_0_134 j_b26_2_135 ((t23.length : Int).toNat + 1) ([] : List Der) t23) (fun z_o227_303 => some (Der.mk j_b26_0_134 false j_b26_2_135 ([] : List Int) ([] : List UInt8) ([] : List Int) z_o227_303,t2_1,j_b26_0_134 != 0)) (fun r => some r)) else (some (Der.mk j_b26_0_134 false j_b26_2_135 ([] : List Int) ([] : List UInt8) ([] : List Int) ([] : List Der),t2_1,j_b26_0_134 != 0)))))))))))))
set_option maxRecDepth 20000 in
theorem ref13_read.okF {r_ref13_read : (List Int) → Int → Option (Der × Int × Bool)} (hr_ref13_read : ref13_read.Rec r_ref13_read) {a0 : List Int} {a1 : Int} {a0_v : Value} {r_0 : Der} {r_1 : Int} {r_2 : Bool} (h : ref13_read.F r_ref13_read a0 a1 = some (r_0,r_1,r_2)) {M : Mem} (w : World) (hM : Ext M (heapOf w)) (hr_a0 : IntRow M .u8 a0_v a0) : Calls Tryd.prog 39 #[a0_v,.int .i64 a1] w (PostF (G:=Value × Value × Value) (fun g => .tuple #[.agg (Der.ce r_0 (g.1) (g.2.1) (g.2.2)),.int .i64 r_1,.bool r_2]) (fun g M_ => (IntRow M_ .u8 (g.1) (Der.bytes r_0)) ∧ (IntRow M_ .u64 (g.2.1) (Der.arcs r_0)) ∧ (RowS ShDer M_ (g.2.2) (Tree.kids r_0))) M w):=by
 unfold ref13_read.F at h
 have hE:=Env.start hM
 refine calls_of_TT (N:=139) (S:=[(0,a0_v),(1,.int .i64 a1)]) (c:=B39) Tryd.func39 rfl rfl rfl (by simp) ?_
 show TT _ _ _ _ _ _ [.code (sub [] B39)] _ _
 refine TT.seq (x:=sub [0] B39) (y:=sub [1] B39) ?_
 refine TT.rg [0,1,2] [(.alloc,none),kp,kp] rfl rfl ?_
 refine DL.new (ob:=.cells (#[.int .i64 0,.bool false,.int .i64 0,(.slice none 0 0),str ([] : List UInt8),(.slice none 0 0),(.slice none 0 0)]) 27) (mk:=fun b => ptr b 0) (i:=0) rfl (Wn.none rfl) rfl rfl rfl (f_alloc ty_z27 rfl) ?_
 intro b1 hb1
 refine DL.pu 5 (.int .i64 0) rfl (p_assign rfl rfl) ?_
 refine DL.pu 6 (.bool false) rfl (p_assign rfl rfl) ?_
 refine DL.nil ?_
 refine TT.seq (x:=sub [1,0] B39) (y:=sub [1,1] B39) ?_
 refine TT.rg [0,1,2,3,4,5,6,7,8] [kp,kq,kp,kp,kp,kp,kp,kp,kp] rfl rfl ?_
 refine DL.mv 17 (a0_v) rfl rfl rfl ?_
 obtain ⟨⟨t2_0,t2_1,t2_2⟩,h3,h4⟩:=bind_some h
 refine DL.qu 18 (.tuple #[.int .i64 t2_0,.int .i64 t2_1,.bool t2_2]) rfl (f_callR rfl rfl (args_val (vs:=[a0_v]) rfl) (fun w => enter56 _ w) (fun w hc => ref13_head.val h3 (M:=M) w (hE.ext hc) hr_a0)) ?_
 refine DL.mv 16 (.tuple #[.int .i64 t2_0,.int .i64 t2_1,.bool t2_2]) rfl rfl rfl ?_
 refine DL.pu 19 (.int .i64 t2_0) rfl (p_extract rfl rfl rfl) ?_
 refine DL.pu 20 (.int .i64 t2_1) rfl (p_extract rfl rfl rfl) ?_
 refine DL.pu 21 (.bool t2_2) rfl (p_extract rfl rfl rfl) ?_
 refine DL.pu 7 (.int .i64 t2_0) rfl (p_assign rfl rfl) ?_
 refine DL.pu 8 (.int .i64 t2_1) rfl (p_assign rfl rfl) ?_
 refine DL.pu 9 (.bool t2_2) rfl (p_assign rfl rfl) ?_
 refine DL.nil ?_
 refine TT.seq (x:=sub [1,1,0] B39) (y:=sub [1,1,1] B39) ?_
 refine TT.seq (x:=sub [1,1,0,0] B39) (y:=sub [1,1,0,1] B39) ?_
 refine TT.rg [0,1,2,3,4,5] [kp,kp,kp,kp,kp,kp] rfl rfl ?_
 refine DL.mv 22 (.bool t2_2) rfl rfl rfl ?_
 refine DL.pu 23 (.bool (!t2_2)) rfl (p_not rfl rfl) ?_
 refine DL.mv 24 (.bool (!t2_2)) rfl rfl rfl ?_
 obtain ⟨q6,h7,h8⟩:=bind_some h4
 refine DL.cut [(0,a0_v),(1,.int .i64 a1),(4,ptr b1 0),(7,.int .i64 t2_0),(8,.int .i64 t2_1),(27,.bool q6)] [] ?_ (fun J9 => ?_)
 ·
  refine DL.nil ?_
  by_cases c13 : q6 = true
  ·
   have h14:=ite_true c13 h8
   refine TT.cond_true (x:=sub [1,1,0,1,0] B39) (y:=sub [1,1,0,1,1] B39) rfl c13 ?_
   refine TT.seq (x:=sub [1,1,0,1,0,0] B39) (y:=sub [1,1,0,1,0,1] B39) ?_
   refine TT.rg [0,1,2,3] [kp,(.store,none),kp,kp] rfl rfl ?_
   refine DL.pu 28 (.agg #[.int .i64 0,.bool false,.int .i64 0,(.slice none 0 0),str ([] : List UInt8),(.slice none 0 0),(.slice none 0 0)]) rfl (p_build (vs:=[]) (fun w => by kernel_rfl) rfl rfl) ?_
   refine DL.put (H':=[(some b1,.cells (#[.int .i64 0,.bool false,.int .i64 0,(.slice none 0 0),str ([] : List UInt8),(.slice none 0 0),(.slice none 0 0)]) 27 (0,0))]) (i:=1) rfl (Wn.none rfl) rfl rfl (f_storeA (j:=0) ty_s27 rfl rfl rfl (one_cons trivial (one_cons trivial (one_cons trivial (one_cons (sl_one (RowV.sl (IntRow.nil .u8 M))) (one_cons trivial (one_cons (sl_one (RowV.sl (IntRow.nil .u64 M))) (one_cons (sl_one (RowS.sl (RowS.nil ShDer M))) one_nil))))))) rfl rfl rfl) (keep_none rfl) ?_
   refine DL.pu 5 (.int .i64 0) rfl (p_assign rfl rfl) ?_
   refine DL.pu 6 (.bool false) rfl (p_assign rfl rfl) ?_
   refine DL.nil ?_
   simp only [Option.some.injEq,Prod.mk.injEq] at h14
   obtain ⟨rfl,rfl,rfl⟩:=h14
   exact retF (rs:=[.cell 4 27,.tmp 5,.tmp 6]) (vs:=[.agg #[.int .i64 0,.bool false,.int .i64 0,(.slice none 0 0),str ([] : List UInt8),(.slice none 0 0),(.slice none 0 0)],.int .i64 0,.bool false]) ((.slice none 0 0),(.slice none 0 0),(.slice none 0 0)) hE Tryd.func39 rfl rfl rfl (res_cons (ResV.cell (j:=0) ty_a27 ty_s27 rfl rfl rfl) (res_cons (ResV.tmp rfl) (res_cons (ResV.tmp rfl) res_nil))) ⟨(IntRow.nil .u8 M),(IntRow.nil .u64 M),(RowS.nil ShDer M)⟩
  ·
   replace c13:=Bool.eq_false_iff.mpr c13
   have h15:=ite_false c13 h8
   refine TT.cond_false (x:=sub [1,1,0,1,0] B39) (y:=sub [1,1,0,1,1] B39) rfl c13 ?_
   refine TT.skip ?_
   refine TT.seq (x:=sub [1,1,1,0] B39) (y:=sub [1,1,1,1] B39) ?_
   refine TT.rg [0,1,2,3,4] [kp,kp,kp,kp,kp] rfl rfl ?_
   refine DL.mv 29 (a0_v) rfl rfl rfl ?_
   refine DL.mv 30 (.int .i64 t2_0) rfl rfl rfl ?_
   refine DL.mv 31 (.int .i64 t2_1) rfl rfl rfl ?_
   obtain ⟨g17,h18⟩:=req_some h15
   obtain ⟨g19,h20⟩:=req_some h18
   obtain ⟨g21,h22⟩:=req_some h20
   obtain ⟨t23,e24,h25⟩:=nm_some h22
   obtain ⟨v16,v16_e⟩ : ∃ u,u = subsl a0_v 1 t2_0.toNat t2_1.toNat:=⟨_,rfl⟩
   have hr_v16 : IntRow M .u8 v16 t23:=by rw [v16_e]; exact (by rw [e24]; exact IntRow.sub hr_a0 (toNat_le g21) (toNat_le2 g19))
   refine DL.pu 32 (v16) rfl (by rw [v16_e]; exact p_subLH ty_u23 ty_s5 hr_a0 g17 g19 g21 rfl rfl rfl rfl) ?_
   refine DL.pu 10 (v16) rfl (p_assign rfl rfl) ?_
   refine DL.nil ?_
   refine TT.seq (x:=sub [1,1,1,1,0] B39) (y:=sub [1,1,1,1,1] B39) ?_
   refine TT.rg [0,1,2] [kp,(.alloc,none),(.store,none)] rfl rfl ?_
   refine DL.pu 33 (.agg #[.int .i64 0,.bool false,.int .i64 0,(.slice none 0 0),str ([] : List UInt8),(.slice none 0 0),(.slice none 0 0)]) rfl (p_build (vs:=[]) (fun w => by kernel_rfl) rfl rfl) ?_
   refine DL.new (ob:=.cells (#[.int .i64 0,.bool false,.int .i64 0,(.slice none 0 0),str ([] : List UInt8),(.slice none 0 0),(.slice none 0 0)]) 27) (mk:=fun b => ptr b 0) (i:=1) rfl (Wn.none rfl) rfl rfl rfl (f_alloc ty_z27 rfl) ?_
   intro b26 hb26
   refine DL.put (H':=[(some b26,.cells (#[.int .i64 0,.bool false,.int .i64 0,(.slice none 0 0),str ([] : List UInt8),(.slice none 0 0),(.slice none 0 0)]) 27 (0,0)),(some b1,.cells (#[.int .i64 0,.bool false,.int .i64 0,(.slice none 0 0),str ([] : List UInt8),(.slice none 0 0),(.slice none 0 0)]) 27 (0,0))]) (i:=2) rfl (Wn.none rfl) rfl rfl (f_storeA (j:=0) ty_s27 rfl rfl rfl (one_cons trivial (one_cons trivial (one_cons trivial (one_cons (sl_one (RowV.sl (IntRow.nil .u8 M))) (one_cons trivial (one_cons (sl_one (RowV.sl (IntRow.nil .u64 M))) (one_cons (sl_one (RowS.sl (RowS.nil ShDer M))) one_nil))))))) rfl rfl rfl) (keep_none rfl) ?_
   refine DL.nil ?_
   refine TT.seq (x:=sub [1,1,1,1,1,0] B39) (y:=sub [1,1,1,1,1,1] B39) ?_
   refine TT.seq (x:=sub [1,1,1,1,1,0,0] B39) (y:=sub [1,1,1,1,1,0,1] B39) ?_
   refine TT.rg [0] [kp] rfl rfl ?_
   refine DL.pu 12 (.int .i64 1) rfl (p_assign rfl rfl) ?_
   refine DL.nil ?_
   refine TT.block (c:=sub [1,1,1,1,1,0,1,0] B39) ?_
   refine TT.loop (c:=sub [1,1,1,1,1,0,1,0,0] B39) ?_
   obtain ⟨z_b26_0_99,h120,h121⟩:=bind_some h25
   refine TT.weak (ref13_read.L0_ok a0 a0_v a1 b1 t2_1 v16 b26 hE hr_a0 11 1 0 z_b26_0_99 h120 ( ?_)) (Sub.cons rfl (Sub.cons rfl (Sub.cons rfl (Sub.cons rfl (Sub.cons rfl (Sub.cons rfl (Sub.cons rfl (Sub.nil _))))))))
   refine TT.seq (x:=sub [1,1,1,1,1,1,0] B39) (y:=sub [1,1,1,1,1,1,1] B39) ?_
   refine TT.seq (x:=sub [1,1,1,1,1,1,0,0] B39) (y:=sub [1,1,1,1,1,1,0,1] B39) ?_
   refine TT.rg [0,1,2,3,4,5,6,7,8,9] [kp,kp,kp,kp,kp,kp,kp,kp,kp,kp] rfl rfl ?_
   refine DL.mv 48 (a0_v) rfl rfl rfl ?_
   obtain ⟨g123,h124⟩:=req_some h121
   refine DL.pu 49 (elp a0_v ((0 : Int).toNat)) rfl (p_slIx1 ty_u23 ty_s5 (RowV.some hr_a0 (by decide) g123) (by decide) g123 rfl rfl rfl) ?_
   refine DL.imm (v:=.int .u8 (a0.getD ((0 : Int).toNat) 0)) rfl (Wn.none rfl) rfl rfl rfl (i_loadEl (RowV.mono hr_a0 hE.mi) (encl_get .u8 (lt_len (by decide) g123)) ty_a5 rfl rfl) ?_
   refine DL.pu 51 (.bool (decide (160 ≤ (a0.getD ((0 : Int).toNat) 0)))) rfl (p_geq rfl rfl rfl) ?_
   refine DL.mv 52 (.bool (decide (160 ≤ (a0.getD ((0 : Int).toNat) 0)))) rfl rfl rfl ?_
   obtain ⟨q126,h127,h128⟩:=bind_some h124
   refine DL.cut [(0,a0_v),(1,.int .i64 a1),(4,ptr b1 0),(8,.int .i64 t2_1),(10,v16),(11,ptr b26 0),(57,.bool q126)] [] ?_ (fun J129 => ?_)
   ·
    refine DL.nil ?_
    obtain ⟨⟨j_b26_0_134,j_b26_2_135⟩,h136,h137⟩:=bind_some h128
    have J138 : TT Tryd.prog 39 (PostF (G:=Value × Value × Value) (fun g => .tuple #[.agg (Der.ce r_0 (g.1) (g.2.1) (g.2.2)),.int .i64 r_1,.bool r_2]) (fun g M_ => (IntRow M_ .u8 (g.1) (Der.bytes r_0)) ∧ (IntRow M_ .u64 (g.2.1) (Der.arcs r_0)) ∧ (RowS ShDer M_ (g.2.2) (Tree.kids r_0))) M w) 139 w (heapOf w) (.code (sub [1,1,1,1,1,1,1] B39) :: []) [(1,.int .i64 a1),(4,ptr b1 0),(8,.int .i64 t2_1),(10,v16),(11,ptr b26 0)] [(some b26,.cells (#[.int .i64 j_b26_0_134,.bool false,.int .i64 j_b26_2_135,(.slice none 0 0),str ([] : List UInt8),(.slice none 0 0),(.slice none 0 0)]) 27 (0,0)),(some b1,.cells (#[.int .i64 0,.bool false,.int .i64 0,(.slice none 0 0),str ([] : List UInt8),(.slice none 0 0),(.slice none 0 0)]) 27 (0,0))]:=by
     refine TT.seq (x:=sub [1,1,1,1,1,1,1,0] B39) (y:=sub [1,1,1,1,1,1,1,1] B39) ?_
     refine TT.seq (x:=sub [1,1,1,1,1,1,1,0,0] B39) (y:=sub [1,1,1,1,1,1,1,0,1] B39) ?_
     refine TT.rg [0,1] [kp,kq] rfl rfl ?_
     refine DL.pu 65 (ptr b26 0) rfl (p_fieldAddr ty_f27_0 rfl rfl) ?_
     refine DL.qu 66 (.int .i64 j_b26_0_134) rfl (f_load (j:=0) ty_a22 rfl rfl rfl rfl) ?_
     refine DL.nil ?_
     refine TT.block (c:=sub [1,1,1,1,1,1,1,0,1,0] B39) ?_
     refine TT.seq (x:=sub [1,1,1,1,1,1,1,0,1,0,0] B39) (y:=sub [1,1,1,1,1,1,1,0,1,0,1] B39) ?_
     refine TT.rg [0,1] [kp,kp] rfl rfl ?_
     refine DL.pu 68 (.bool (j_b26_0_134 == 1)) rfl (p_eql rfl rfl rfl) ?_
     refine DL.pu 67 (.bool (j_b26_0_134 == 1)) rfl (p_assign rfl rfl) ?_
     refine DL.nil ?_
     by_cases c146 : (j_b26_0_134 == 1) = true
     ·
      have h147:=ite_true c146 h137
      refine TT.cond_true (x:=sub [1,1,1,1,1,1,1,0,1,0,1,0] B39) (y:=sub [1,1,1,1,1,1,1,0,1,0,1,1] B39) rfl c146 ?_
      refine TT.rg [0,1,2,3,4,5,6,7,8,9,10] [kp,kp,kp,kp,kp,kp,kp,kp,kp,kp,(.store,none)] rfl rfl ?_
      refine DL.mv 69 (v16) rfl rfl rfl ?_
      refine DL.pu 70 (.int .i64 (t23.length : Int)) rfl (p_slLen ty_u23 (RowV.sl hr_v16) rfl rfl) ?_
      refine DL.pu 71 (.bool ((t23.length : Int) == 1)) rfl (p_eql rfl rfl rfl) ?_
      refine DL.mv 72 (.bool ((t23.length : Int) == 1)) rfl rfl rfl ?_
      obtain ⟨q149,h150,h151⟩:=bind_some h147
      refine DL.cut [(4,ptr b1 0),(8,.int .i64 t2_1),(11,ptr b26 0),(77,.bool q149)] [9,10] ?_ (fun J152 => ?_)
      ·
       refine DL.pu 78 (ptr b26 1) rfl (p_fieldAddr ty_f27_1 rfl rfl) ?_
       refine DL.put (H':=[(some b26,.cells (#[.int .i64 j_b26_0_134,.bool q149,.int .i64 j_b26_2_135,(.slice none 0 0),str ([] : List UInt8),(.slice none 0 0),(.slice none 0 0)]) 27 (0,0)),(some b1,.cells (#[.int .i64 0,.bool false,.int .i64 0,(.slice none 0 0),str ([] : List UInt8),(.slice none 0 0),(.slice none 0 0)]) 27 (0,0))]) (i:=10) rfl (Wn.none rfl) rfl rfl (f_store (c:=#[.int .i64 j_b26_0_134,.bool false,.int .i64 j_b26_2_135,(.slice none 0 0),str ([] : List UInt8),(.slice none 0 0),(.slice none 0 0)]) (v:=.bool q149) (off:=1) (j:=0) ty_s4 rfl rfl (of_decide_eq_true rfl) trivial rfl rfl rfl) (keep_none rfl) ?_
       refine DL.nil ?_
       refine TT.inBlock ?_
       refine TT.seq (x:=sub [1,1,1,1,1,1,1,1,0] B39) (y:=sub [1,1,1,1,1,1,1,1,1] B39) ?_
       refine TT.rgD [0,1,2,3,4,5,6,7] [0,0,0,4,12,1,35,127] [(.look,some 0),kp,kp,(.look,some 0),kp,(.store,some 1),kp,kp] rfl mixed (by kernel_rfl) ?_
       intro w158 hl158 hj158 hz158
       refine DL.look (v:=.agg #[.int .i64 j_b26_0_134,.bool q149,.int .i64 j_b26_2_135,(.slice none 0 0),str ([] : List UInt8),(.slice none 0 0),(.slice none 0 0)]) (x:=0) (b:=b26) (i:=0) rfl (Wn.none rfl) rfl rfl rfl rfl rfl (List.mem_of_getElem? (i:=0) rfl) (b_loadA ty_a27 ty_s27 rfl rfl rfl) ?_
       refine DL.mv 135 (.int .i64 t2_1) rfl rfl rfl ?_
       refine DL.pu 136 (ptr b26 0) rfl (p_fieldAddr ty_f27_0 rfl rfl) ?_
       refine DL.look (v:=.int .i64 j_b26_0_134) (x:=0) (b:=b26) (i:=3) rfl (Wn.none rfl) rfl rfl rfl rfl rfl (List.mem_of_getElem? (i:=0) rfl) (b_load ty_a22 rfl rfl rfl) ?_
       refine DL.pu 138 (.bool (j_b26_0_134 != 0)) rfl (p_neq rfl rfl rfl) ?_
       refine DL.put (H':=[(some b26,.cells (#[.int .i64 j_b26_0_134,.bool q149,.int .i64 j_b26_2_135,(.slice none 0 0),str ([] : List UInt8),(.slice none 0 0),(.slice none 0 0)]) 27 (0,0)),(some b1,.cells (#[.int .i64 j_b26_0_134,.bool q149,.int .i64 j_b26_2_135,(.slice none 0 0),str ([] : List UInt8),(.slice none 0 0),(.slice none 0 0)]) 27 (0,0))]) (i:=5) rfl (Wn.none rfl) rfl rfl (f_storeA (j:=1) ty_s27 rfl rfl rfl (one_cons trivial (one_cons trivial (one_cons trivial (one_cons (sl_one (RowV.sl (IntRow.nil .u8 M))) (one_cons trivial (one_cons (sl_one (RowV.sl (IntRow.nil .u64 M))) (one_cons (sl_one (RowS.sl (RowS.nil ShDer M))) one_nil))))))) rfl rfl rfl) (keep_set (j:=1) hj158 rfl rfl rfl) ?_
       refine DL.pu 5 (.int .i64 t2_1) rfl (p_assign rfl rfl) ?_
       refine DL.pu 6 (.bool (j_b26_0_134 != 0)) rfl (p_assign rfl rfl) ?_
       refine DL.nil' hl158 ?_
       simp only [Option.some.injEq,Prod.mk.injEq] at h151
       obtain ⟨rfl,rfl,rfl⟩:=h151
       exact retF (rs:=[.cell 4 27,.tmp 5,.tmp 6]) (vs:=[.agg #[.int .i64 j_b26_0_134,.bool q149,.int .i64 j_b26_2_135,(.slice none 0 0),str ([] : List UInt8),(.slice none 0 0),(.slice none 0 0)],.int .i64 t2_1,.bool (j_b26_0_134 != 0)]) ((.slice none 0 0),(.slice none 0 0),(.slice none 0 0)) hE Tryd.func39 rfl rfl rfl (res_cons (ResV.cell (j:=1) ty_a27 ty_s27 rfl rfl rfl) (res_cons (ResV.tmp rfl) (res_cons (ResV.tmp rfl) res_nil))) ⟨(IntRow.nil .u8 M),(IntRow.nil .u64 M),(RowS.nil ShDer M)⟩
      ·
       by_cases c153 : ((t23.length : Int) == 1) = true
       ·
        have h154:=ite_true c153 h150
        refine DL.pure (v:=v16) rfl (Wn.yes c153 rfl rfl rfl rfl) rfl rfl rfl (p_move rfl rfl) ?_
        obtain ⟨g155,h156⟩:=req_some h154
        refine DL.pure (v:=elp v16 ((0 : Int).toNat)) rfl (Wn.yes c153 rfl rfl rfl rfl) rfl rfl rfl (p_slIx1 ty_u23 ty_s5 (RowV.some hr_v16 (by decide) g155) (by decide) g155 rfl rfl rfl) ?_
        refine DL.imm (v:=.int .u8 (t23.getD ((0 : Int).toNat) 0)) rfl (Wn.yes c153 rfl rfl rfl rfl) rfl rfl rfl (i_loadEl (RowV.mono hr_v16 hE.mi) (encl_get .u8 (lt_len (by decide) g155)) ty_a5 rfl rfl) ?_
        refine DL.pure (v:=.bool ((t23.getD ((0 : Int).toNat) 0) == 255)) rfl (Wn.yes c153 rfl rfl rfl rfl) rfl rfl rfl (p_eql rfl rfl rfl) ?_
        refine DL.pu 77 (.bool ((t23.getD ((0 : Int).toNat) 0) == 255)) rfl (p_pick_t c153 rfl rfl rfl) ?_
        obtain rfl:=Option.some.inj h156
        exact DL.weak J152 (Sub.cons rfl (Sub.cons rfl (Sub.cons rfl (Sub.cons rfl (Sub.nil _)))))
       ·
        replace c153:=Bool.eq_false_iff.mpr c153
        have h157:=ite_false c153 h150
        refine DL.not (i:=4) rfl (Wn.no c153 rfl rfl rfl rfl) rfl rfl ?_
        refine DL.not (i:=5) rfl (Wn.no c153 rfl rfl rfl rfl) rfl rfl ?_
        refine DL.not (i:=6) rfl (Wn.no c153 rfl rfl rfl rfl) rfl rfl ?_
        refine DL.not (i:=7) rfl (Wn.no c153 rfl rfl rfl rfl) rfl rfl ?_
        refine DL.pu 77 (.bool false) rfl (p_pick_f c153 rfl rfl rfl) ?_
        obtain rfl:=Option.some.inj h157
        exact DL.weak J152 (Sub.cons rfl (Sub.cons rfl (Sub.cons rfl (Sub.cons rfl (Sub.nil _)))))
     ·
      replace c146:=Bool.eq_false_iff.mpr c146
      have h159:=ite_false c146 h137
      refine TT.cond_false (x:=sub [1,1,1,1,1,1,1,0,1,0,1,0] B39) (y:=sub [1,1,1,1,1,1,1,0,1,0,1,1] B39) rfl c146 ?_
      refine TT.seq (x:=sub [1,1,1,1,1,1,1,0,1,0,1,1,0] B39) (y:=sub [1,1,1,1,1,1,1,0,1,0,1,1,1] B39) ?_
      refine TT.rg [0,1] [kp,kp] rfl rfl ?_
      refine DL.pu 80 (.bool (j_b26_0_134 == 2)) rfl (p_eql rfl rfl rfl) ?_
      refine DL.pu 79 (.bool (j_b26_0_134 == 2)) rfl (p_assign rfl rfl) ?_
      refine DL.nil ?_
      by_cases c160 : (j_b26_0_134 == 2) = true
      ·
       have h161:=ite_true c160 h159
       refine TT.cond_true (x:=sub [1,1,1,1,1,1,1,0,1,0,1,1,1,0] B39) (y:=sub [1,1,1,1,1,1,1,0,1,0,1,1,1,1] B39) rfl c160 ?_
       refine TT.rg [0,1,2,3] [kp,kq,kp,(.store,none)] rfl rfl ?_
       refine DL.mv 81 (v16) rfl rfl rfl ?_
       obtain ⟨t162,h163,h164⟩:=bind_some h161
       refine DL.qu 82 (.int .i64 t162) rfl (f_callR rfl rfl (args_val (vs:=[v16]) rfl) (fun w => enter57 _ w) (fun w hc => ref13_number.val h163 (M:=M) w (hE.ext hc) hr_v16)) ?_
       refine DL.pu 83 (ptr b26 2) rfl (p_fieldAddr ty_f27_2 rfl rfl) ?_
       refine DL.put (H':=[(some b26,.cells (#[.int .i64 j_b26_0_134,.bool false,.int .i64 t162,(.slice none 0 0),str ([] : List UInt8),(.slice none 0 0),(.slice none 0 0)]) 27 (0,0)),(some b1,.cells (#[.int .i64 0,.bool false,.int .i64 0,(.slice none 0 0),str ([] : List UInt8),(.slice none 0 0),(.slice none 0 0)]) 27 (0,0))]) (i:=3) rfl (Wn.none rfl) rfl rfl (f_store (c:=#[.int .i64 j_b26_0_134,.bool false,.int .i64 j_b26_2_135,(.slice none 0 0),str ([] : List UInt8),(.slice none 0 0),(.slice none 0 0)]) (v:=.int .i64 t162) (off:=2) (j:=0) ty_s2 rfl rfl (of_decide_eq_true rfl) trivial rfl rfl rfl) (keep_none rfl) ?_
       refine DL.nil ?_
       refine TT.inBlock ?_
       refine TT.seq (x:=sub [1,1,1,1,1,1,1,1,0] B39) (y:=sub [1,1,1,1,1,1,1,1,1] B39) ?_
       refine TT.rgD [0,1,2,3,4,5,6,7] [0,0,0,4,12,1,35,127] [(.look,some 0),kp,kp,(.look,some 0),kp,(.store,some 1),kp,kp] rfl mixed (by kernel_rfl) ?_
       intro w165 hl165 hj165 hz165
       refine DL.look (v:=.agg #[.int .i64 j_b26_0_134,.bool false,.int .i64 t162,(.slice none 0 0),str ([] : List UInt8),(.slice none 0 0),(.slice none 0 0)]) (x:=0) (b:=b26) (i:=0) rfl (Wn.none rfl) rfl rfl rfl rfl rfl (List.mem_of_getElem? (i:=0) rfl) (b_loadA ty_a27 ty_s27 rfl rfl rfl) ?_
       refine DL.mv 135 (.int .i64 t2_1) rfl rfl rfl ?_
       refine DL.pu 136 (ptr b26 0) rfl (p_fieldAddr ty_f27_0 rfl rfl) ?_
       refine DL.look (v:=.int .i64 j_b26_0_134) (x:=0) (b:=b26) (i:=3) rfl (Wn.none rfl) rfl rfl rfl rfl rfl (List.mem_of_getElem? (i:=0) rfl) (b_load ty_a22 rfl rfl rfl) ?_
       refine DL.pu 138 (.bool (j_b26_0_134 != 0)) rfl (p_neq rfl rfl rfl) ?_
       refine DL.put (H':=[(some b26,.cells (#[.int .i64 j_b26_0_134,.bool false,.int .i64 t162,(.slice none 0 0),str ([] : List UInt8),(.slice none 0 0),(.slice none 0 0)]) 27 (0,0)),(some b1,.cells (#[.int .i64 j_b26_0_134,.bool false,.int .i64 t162,(.slice none 0 0),str ([] : List UInt8),(.slice none 0 0),(.slice none 0 0)]) 27 (0,0))]) (i:=5) rfl (Wn.none rfl) rfl rfl (f_storeA (j:=1) ty_s27 rfl rfl rfl (one_cons trivial (one_cons trivial (one_cons trivial (one_cons (sl_one (RowV.sl (IntRow.nil .u8 M))) (one_cons trivial (one_cons (sl_one (RowV.sl (IntRow.nil .u64 M))) (one_cons (sl_one (RowS.sl (RowS.nil ShDer M))) one_nil))))))) rfl rfl rfl) (keep_set (j:=1) hj165 rfl rfl rfl) ?_
       refine DL.pu 5 (.int .i64 t2_1) rfl (p_assign rfl rfl) ?_
       refine DL.pu 6 (.bool (j_b26_0_134 != 0)) rfl (p_assign rfl rfl) ?_
       refine DL.nil' hl165 ?_
       simp only [Option.some.injEq,Prod.mk.injEq] at h164
       obtain ⟨rfl,rfl,rfl⟩:=h164
       exact retF (rs:=[.cell 4 27,.tmp 5,.tmp 6]) (vs:=[.agg #[.int .i64 j_b26_0_134,.bool false,.int .i64 t162,(.slice none 0 0),str ([] : List UInt8),(.slice none 0 0),(.slice none 0 0)],.int .i64 t2_1,.bool (j_b26_0_134 != 0)]) ((.slice none 0 0),(.slice none 0 0),(.slice none 0 0)) hE Tryd.func39 rfl rfl rfl (res_cons (ResV.cell (j:=1) ty_a27 ty_s27 rfl rfl rfl) (res_cons (ResV.tmp rfl) (res_cons (ResV.tmp rfl) res_nil))) ⟨(IntRow.nil .u8 M),(IntRow.nil .u64 M),(RowS.nil ShDer M)⟩
      ·
       replace c160:=Bool.eq_false_iff.mpr c160
       have h166:=ite_false c160 h159
       refine TT.cond_false (x:=sub [1,1,1,1,1,1,1,0,1,0,1,1,1,0] B39) (y:=sub [1,1,1,1,1,1,1,0,1,0,1,1,1,1] B39) rfl c160 ?_
       refine TT.seq (x:=sub [1,1,1,1,1,1,1,0,1,0,1,1,1,1,0] B39) (y:=sub [1,1,1,1,1,1,1,0,1,0,1,1,1,1,1] B39) ?_
       refine TT.rg [0,1] [kp,kp] rfl rfl ?_
       refine DL.pu 85 (.bool (j_b26_0_134 == 3)) rfl (p_eql rfl rfl rfl) ?_
       refine DL.pu 84 (.bool (j_b26_0_134 == 3)) rfl (p_assign rfl rfl) ?_
       refine DL.nil ?_
       by_cases c167 : (j_b26_0_134 == 3) = true
       ·
        have h168:=ite_true c167 h166
        refine TT.cond_true (x:=sub [1,1,1,1,1,1,1,0,1,0,1,1,1,1,1,0] B39) (y:=sub [1,1,1,1,1,1,1,0,1,0,1,1,1,1,1,1] B39) rfl c167 ?_
        refine TT.seq (x:=sub [1,1,1,1,1,1,1,0,1,0,1,1,1,1,1,0,0] B39) (y:=sub [1,1,1,1,1,1,1,0,1,0,1,1,1,1,1,0,1] B39) ?_
        refine TT.rg [0,1,2] [kp,kp,kp] rfl rfl ?_
        refine DL.mv 86 (v16) rfl rfl rfl ?_
        refine DL.pu 87 (.int .i64 (t23.length : Int)) rfl (p_slLen ty_u23 (RowV.sl hr_v16) rfl rfl) ?_
        refine DL.pu 88 (.bool (decide (0 < (t23.length : Int)))) rfl (p_gtr rfl rfl rfl) ?_
        refine DL.nil ?_
        obtain ⟨j_b26_3_170,h171,h172⟩:=bind_some h168
        have J173 : ∀ (j_b26_3_170_v : Value),IntRow M .u8 j_b26_3_170_v j_b26_3_170 → TT Tryd.prog 39 (PostF (G:=Value × Value × Value) (fun g => .tuple #[.agg (Der.ce r_0 (g.1) (g.2.1) (g.2.2)),.int .i64 r_1,.bool r_2]) (fun g M_ => (IntRow M_ .u8 (g.1) (Der.bytes r_0)) ∧ (IntRow M_ .u64 (g.2.1) (Der.arcs r_0)) ∧ (RowS ShDer M_ (g.2.2) (Tree.kids r_0))) M w) 139 w (heapOf w) (.inBlock 2 :: .code (sub [1,1,1,1,1,1,1,1] B39) :: []) [(4,ptr b1 0),(8,.int .i64 t2_1),(11,ptr b26 0)] [(some b26,.cells (#[.int .i64 j_b26_0_134,.bool false,.int .i64 j_b26_2_135,j_b26_3_170_v,str ([] : List UInt8),(.slice none 0 0),(.slice none 0 0)]) 27 (0,0)),(some b1,.cells (#[.int .i64 0,.bool false,.int .i64 0,(.slice none 0 0),str ([] : List UInt8),(.slice none 0 0),(.slice none 0 0)]) 27 (0,0))]:=by
         intro j_b26_3_170_v hr_j_b26_3_170
         refine TT.inBlock ?_
         refine TT.seq (x:=sub [1,1,1,1,1,1,1,1,0] B39) (y:=sub [1,1,1,1,1,1,1,1,1] B39) ?_
         refine TT.rgD [0,1,2,3,4,5,6,7] [0,0,0,4,12,1,35,127] [(.look,some 0),kp,kp,(.look,some 0),kp,(.store,some 1),kp,kp] rfl mixed (by kernel_rfl) ?_
         intro w180 hl180 hj180 hz180
         refine DL.look (v:=.agg #[.int .i64 j_b26_0_134,.bool false,.int .i64 j_b26_2_135,j_b26_3_170_v,str ([] : List UInt8),(.slice none 0 0),(.slice none 0 0)]) (x:=0) (b:=b26) (i:=0) rfl (Wn.none rfl) rfl rfl rfl rfl rfl (List.mem_of_getElem? (i:=0) rfl) (b_loadA ty_a27 ty_s27 rfl rfl rfl) ?_
         refine DL.mv 135 (.int .i64 t2_1) rfl rfl rfl ?_
         refine DL.pu 136 (ptr b26 0) rfl (p_fieldAddr ty_f27_0 rfl rfl) ?_
         refine DL.look (v:=.int .i64 j_b26_0_134) (x:=0) (b:=b26) (i:=3) rfl (Wn.none rfl) rfl rfl rfl rfl rfl (List.mem_of_getElem? (i:=0) rfl) (b_load ty_a22 rfl rfl rfl) ?_
         refine DL.pu 138 (.bool (j_b26_0_134 != 0)) rfl (p_neq rfl rfl rfl) ?_
         refine DL.put (H':=[(some b26,.cells (#[.int .i64 j_b26_0_134,.bool false,.int .i64 j_b26_2_135,j_b26_3_170_v,str ([] : List UInt8),(.slice none 0 0),(.slice none 0 0)]) 27 (0,0)),(some b1,.cells (#[.int .i64 j_b26_0_134,.bool false,.int .i64 j_b26_2_135,j_b26_3_170_v,str ([] : List UInt8),(.slice none 0 0),(.slice none 0 0)]) 27 (0,0))]) (i:=5) rfl (Wn.none rfl) rfl rfl (f_storeA (j:=1) ty_s27 rfl rfl rfl (one_cons trivial (one_cons trivial (one_cons trivial (one_cons (sl_one (RowV.sl hr_j_b26_3_170)) (one_cons trivial (one_cons (sl_one (RowV.sl (IntRow.nil .u64 M))) (one_cons (sl_one (RowS.sl (RowS.nil ShDer M))) one_nil))))))) rfl rfl rfl) (keep_set (j:=1) hj180 rfl rfl rfl) ?_
         refine DL.pu 5 (.int .i64 t2_1) rfl (p_assign rfl rfl) ?_
         refine DL.pu 6 (.bool (j_b26_0_134 != 0)) rfl (p_assign rfl rfl) ?_
         refine DL.nil' hl180 ?_
         simp only [Option.some.injEq,Prod.mk.injEq] at h172
         obtain ⟨rfl,rfl,rfl⟩:=h172
         exact retF (rs:=[.cell 4 27,.tmp 5,.tmp 6]) (vs:=[.agg #[.int .i64 j_b26_0_134,.bool false,.int .i64 j_b26_2_135,j_b26_3_170_v,str ([] : List UInt8),(.slice none 0 0),(.slice none 0 0)],.int .i64 t2_1,.bool (j_b26_0_134 != 0)]) (j_b26_3_170_v,(.slice none 0 0),(.slice none 0 0)) hE Tryd.func39 rfl rfl rfl (res_cons (ResV.cell (j:=1) ty_a27 ty_s27 rfl rfl rfl) (res_cons (ResV.tmp rfl) (res_cons (ResV.tmp rfl) res_nil))) ⟨hr_j_b26_3_170,(IntRow.nil .u64 M),(RowS.nil ShDer M)⟩
        by_cases c169 : (decide (0 < (t23.length : Int))) = true
        ·
         have h175:=ite_true c169 h171
         refine TT.cond_true (x:=sub [1,1,1,1,1,1,1,0,1,0,1,1,1,1,1,0,1,0] B39) (y:=sub [1,1,1,1,1,1,1,0,1,0,1,1,1,1,1,0,1,1] B39) rfl c169 ?_
         refine TT.rg [0,1,2,3] [kp,kp,kp,(.store,none)] rfl rfl ?_
         refine DL.mv 89 (v16) rfl rfl rfl ?_
         obtain ⟨g177,h178⟩:=req_some h175
         obtain ⟨v176,v176_e⟩ : ∃ u,u = subsl v16 1 (1 : Int).toNat t23.length:=⟨_,rfl⟩
         have hr_v176 : IntRow M .u8 v176 (t23.drop (1 : Int).toNat):=by rw [v176_e]; exact (IntRow.subL hr_v16 (toNat_le g177))
         refine DL.pu 90 (v176) rfl (by rw [v176_e]; exact p_subL ty_u23 ty_s5 hr_v16 (by decide) g177 rfl rfl rfl) ?_
         refine DL.pu 91 (ptr b26 3) rfl (p_fieldAddr ty_f27_3 rfl rfl) ?_
         refine DL.put (H':=[(some b26,.cells (#[.int .i64 j_b26_0_134,.bool false,.int .i64 j_b26_2_135,v176,str ([] : List UInt8),(.slice none 0 0),(.slice none 0 0)]) 27 (0,0)),(some b1,.cells (#[.int .i64 0,.bool false,.int .i64 0,(.slice none 0 0),str ([] : List UInt8),(.slice none 0 0),(.slice none 0 0)]) 27 (0,0))]) (i:=3) rfl (Wn.none rfl) rfl rfl (f_store (c:=#[.int .i64 j_b26_0_134,.bool false,.int .i64 j_b26_2_135,(.slice none 0 0),str ([] : List UInt8),(.slice none 0 0),(.slice none 0 0)]) (v:=v176) (off:=3) (j:=0) ty_s23 rfl (sl_cells (RowV.sl hr_v176)) (of_decide_eq_true rfl) (sl_one (RowV.sl hr_v176)) rfl rfl rfl) (keep_none rfl) ?_
         refine DL.nil ?_
         obtain rfl:=Option.some.inj h178
         exact TT.weak (J173 v176 hr_v176) (Sub.cons rfl (Sub.cons rfl (Sub.cons rfl (Sub.nil _))))
        ·
         replace c169:=Bool.eq_false_iff.mpr c169
         have h179:=ite_false c169 h171
         refine TT.cond_false (x:=sub [1,1,1,1,1,1,1,0,1,0,1,1,1,1,1,0,1,0] B39) (y:=sub [1,1,1,1,1,1,1,0,1,0,1,1,1,1,1,0,1,1] B39) rfl c169 ?_
         refine TT.skip ?_
         obtain rfl:=Option.some.inj h179
         exact TT.weak (J173 (.slice none 0 0) (IntRow.nil .u8 M)) (Sub.cons rfl (Sub.cons rfl (Sub.cons rfl (Sub.nil _))))
       ·
        replace c167:=Bool.eq_false_iff.mpr c167
        have h181:=ite_false c167 h166
        refine TT.cond_false (x:=sub [1,1,1,1,1,1,1,0,1,0,1,1,1,1,1,0] B39) (y:=sub [1,1,1,1,1,1,1,0,1,0,1,1,1,1,1,1] B39) rfl c167 ?_
        refine TT.seq (x:=sub [1,1,1,1,1,1,1,0,1,0,1,1,1,1,1,1,0] B39) (y:=sub [1,1,1,1,1,1,1,0,1,0,1,1,1,1,1,1,1] B39) ?_
        refine TT.rg [0,1] [kp,kp] rfl rfl ?_
        refine DL.pu 93 (.bool (j_b26_0_134 == 4)) rfl (p_eql rfl rfl rfl) ?_
        refine DL.pu 92 (.bool (j_b26_0_134 == 4)) rfl (p_assign rfl rfl) ?_
        refine DL.nil ?_
        by_cases c182 : (j_b26_0_134 == 4) = true
        ·
         have h183:=ite_true c182 h181
         refine TT.cond_true (x:=sub [1,1,1,1,1,1,1,0,1,0,1,1,1,1,1,1,1,0] B39) (y:=sub [1,1,1,1,1,1,1,0,1,0,1,1,1,1,1,1,1,1] B39) rfl c182 ?_
         refine TT.rg [0,1,2] [kp,kp,(.store,none)] rfl rfl ?_
         refine DL.mv 94 (v16) rfl rfl rfl ?_
         refine DL.pu 95 (ptr b26 3) rfl (p_fieldAddr ty_f27_3 rfl rfl) ?_
         refine DL.put (H':=[(some b26,.cells (#[.int .i64 j_b26_0_134,.bool false,.int .i64 j_b26_2_135,v16,str ([] : List UInt8),(.slice none 0 0),(.slice none 0 0)]) 27 (0,0)),(some b1,.cells (#[.int .i64 0,.bool false,.int .i64 0,(.slice none 0 0),str ([] : List UInt8),(.slice none 0 0),(.slice none 0 0)]) 27 (0,0))]) (i:=2) rfl (Wn.none rfl) rfl rfl (f_store (c:=#[.int .i64 j_b26_0_134,.bool false,.int .i64 j_b26_2_135,(.slice none 0 0),str ([] : List UInt8),(.slice none 0 0),(.slice none 0 0)]) (v:=v16) (off:=3) (j:=0) ty_s23 rfl (sl_cells (RowV.sl hr_v16)) (of_decide_eq_true rfl) (sl_one (RowV.sl hr_v16)) rfl rfl rfl) (keep_none rfl) ?_
         refine DL.nil ?_
         refine TT.inBlock ?_
         refine TT.seq (x:=sub [1,1,1,1,1,1,1,1,0] B39) (y:=sub [1,1,1,1,1,1,1,1,1] B39) ?_
         refine TT.rgD [0,1,2,3,4,5,6,7] [0,0,0,4,12,1,35,127] [(.look,some 0),kp,kp,(.look,some 0),kp,(.store,some 1),kp,kp] rfl mixed (by kernel_rfl) ?_
         intro w184 hl184 hj184 hz184
         refine DL.look (v:=.agg #[.int .i64 j_b26_0_134,.bool false,.int .i64 j_b26_2_135,v16,str ([] : List UInt8),(.slice none 0 0),(.slice none 0 0)]) (x:=0) (b:=b26) (i:=0) rfl (Wn.none rfl) rfl rfl rfl rfl rfl (List.mem_of_getElem? (i:=0) rfl) (b_loadA ty_a27 ty_s27 rfl rfl rfl) ?_
         refine DL.mv 135 (.int .i64 t2_1) rfl rfl rfl ?_
         refine DL.pu 136 (ptr b26 0) rfl (p_fieldAddr ty_f27_0 rfl rfl) ?_
         refine DL.look (v:=.int .i64 j_b26_0_134) (x:=0) (b:=b26) (i:=3) rfl (Wn.none rfl) rfl rfl rfl rfl rfl (List.mem_of_getElem? (i:=0) rfl) (b_load ty_a22 rfl rfl rfl) ?_
         refine DL.pu 138 (.bool (j_b26_0_134 != 0)) rfl (p_neq rfl rfl rfl) ?_
         refine DL.put (H':=[(some b26,.cells (#[.int .i64 j_b26_0_134,.bool false,.int .i64 j_b26_2_135,v16,str ([] : List UInt8),(.slice none 0 0),(.slice none 0 0)]) 27 (0,0)),(some b1,.cells (#[.int .i64 j_b26_0_134,.bool false,.int .i64 j_b26_2_135,v16,str ([] : List UInt8),(.slice none 0 0),(.slice none 0 0)]) 27 (0,0))]) (i:=5) rfl (Wn.none rfl) rfl rfl (f_storeA (j:=1) ty_s27 rfl rfl rfl (one_cons trivial (one_cons trivial (one_cons trivial (one_cons (sl_one (RowV.sl hr_v16)) (one_cons trivial (one_cons (sl_one (RowV.sl (IntRow.nil .u64 M))) (one_cons (sl_one (RowS.sl (RowS.nil ShDer M))) one_nil))))))) rfl rfl rfl) (keep_set (j:=1) hj184 rfl rfl rfl) ?_
         refine DL.pu 5 (.int .i64 t2_1) rfl (p_assign rfl rfl) ?_
         refine DL.pu 6 (.bool (j_b26_0_134 != 0)) rfl (p_assign rfl rfl) ?_
         refine DL.nil' hl184 ?_
         simp only [Option.some.injEq,Prod.mk.injEq] at h183
         obtain ⟨rfl,rfl,rfl⟩:=h183
         exact retF (rs:=[.cell 4 27,.tmp 5,.tmp 6]) (vs:=[.agg #[.int .i64 j_b26_0_134,.bool false,.int .i64 j_b26_2_135,v16,str ([] : List UInt8),(.slice none 0 0),(.slice none 0 0)],.int .i64 t2_1,.bool (j_b26_0_134 != 0)]) (v16,(.slice none 0 0),(.slice none 0 0)) hE Tryd.func39 rfl rfl rfl (res_cons (ResV.cell (j:=1) ty_a27 ty_s27 rfl rfl rfl) (res_cons (ResV.tmp rfl) (res_cons (ResV.tmp rfl) res_nil))) ⟨hr_v16,(IntRow.nil .u64 M),(RowS.nil ShDer M)⟩
        ·
         replace c182:=Bool.eq_false_iff.mpr c182
         have h185:=ite_false c182 h181
         refine TT.cond_false (x:=sub [1,1,1,1,1,1,1,0,1,0,1,1,1,1,1,1,1,0] B39) (y:=sub [1,1,1,1,1,1,1,0,1,0,1,1,1,1,1,1,1,1] B39) rfl c182 ?_
         refine TT.seq (x:=sub [1,1,1,1,1,1,1,0,1,0,1,1,1,1,1,1,1,1,0] B39) (y:=sub [1,1,1,1,1,1,1,0,1,0,1,1,1,1,1,1,1,1,1] B39) ?_
         refine TT.rg [0,1] [kp,kp] rfl rfl ?_
         refine DL.pu 97 (.bool (j_b26_0_134 == 5)) rfl (p_eql rfl rfl rfl) ?_
         refine DL.pu 96 (.bool (j_b26_0_134 == 5)) rfl (p_assign rfl rfl) ?_
         refine DL.nil ?_
         by_cases c186 : (j_b26_0_134 == 5) = true
         ·
          have h187:=ite_true c186 h185
          refine TT.cond_true (x:=sub [1,1,1,1,1,1,1,0,1,0,1,1,1,1,1,1,1,1,1,0] B39) (y:=sub [1,1,1,1,1,1,1,0,1,0,1,1,1,1,1,1,1,1,1,1] B39) rfl c186 ?_
          refine TT.rg [0,1,2,3] [kp,kx,kp,(.store,none)] rfl rfl ?_
          refine DL.mv 98 (v16) rfl rfl rfl ?_
          obtain ⟨t188,h189,h190⟩:=bind_some h187
          obtain ⟨g191,h192⟩:=req_some h190
          refine DL.ownx (zs:=t188) (H':=fun t188_v t188_c => [(Value.ownBlock t188_v,.cells t188_c 50 (0,0)),(some b26,.cells (#[.int .i64 j_b26_0_134,.bool false,.int .i64 j_b26_2_135,(.slice none 0 0),str ([] : List UInt8),(.slice none 0 0),(.slice none 0 0)]) 27 (0,0)),(some b1,.cells (#[.int .i64 0,.bool false,.int .i64 0,(.slice none 0 0),str ([] : List UInt8),(.slice none 0 0),(.slice none 0 0)]) 27 (0,0))]) (i:=1) rfl (Wn.none rfl) rfl rfl rfl (f_callOwn rfl rfl (args_val (vs:=[v16]) rfl) (fun w => enter58 _ w) (fun w hc => ref13_arcs.ok h189 (M:=M) w (hE.ext hc) hr_v16)) (fun _ => rfl) ?_
          intro t188_v t188_c ho_t188
          show DL _ _ _ _ _ _ _ _ _ _ _ _ [(Value.ownBlock t188_v,.cells t188_c 50 (0,0)),(some b26,.cells (#[.int .i64 j_b26_0_134,.bool false,.int .i64 j_b26_2_135,(.slice none 0 0),str ([] : List UInt8),(.slice none 0 0),(.slice none 0 0)]) 27 (0,0)),(some b1,.cells (#[.int .i64 0,.bool false,.int .i64 0,(.slice none 0 0),str ([] : List UInt8),(.slice none 0 0),(.slice none 0 0)]) 27 (0,0))]
          refine DL.pu 100 (ptr b26 5) rfl (p_fieldAddr ty_f27_5 rfl rfl) ?_
          refine DL.put (H':=[(Value.ownBlock t188_v,.cells t188_c 50 (0,0)),(some b26,.cells (#[.int .i64 j_b26_0_134,.bool false,.int .i64 j_b26_2_135,(.slice none 0 0),str ([] : List UInt8),t188_v,(.slice none 0 0)]) 27 (0,0)),(some b1,.cells (#[.int .i64 0,.bool false,.int .i64 0,(.slice none 0 0),str ([] : List UInt8),(.slice none 0 0),(.slice none 0 0)]) 27 (0,0))]) (i:=3) rfl (Wn.none rfl) rfl rfl (f_store (c:=#[.int .i64 j_b26_0_134,.bool false,.int .i64 j_b26_2_135,(.slice none 0 0),str ([] : List UInt8),(.slice none 0 0),(.slice none 0 0)]) (v:=t188_v) (off:=5) (j:=1) ty_s24 rfl (sl_cells (OwnV.sl ho_t188)) (of_decide_eq_true rfl) (sl_one (OwnV.sl ho_t188)) rfl rfl rfl) (keep_none rfl) ?_
          refine DL.nil ?_
          refine TT.inBlock ?_
          refine TT.seq (x:=sub [1,1,1,1,1,1,1,1,0] B39) (y:=sub [1,1,1,1,1,1,1,1,1] B39) ?_
          refine TT.rgD [0,1,2,3,4,5,6,7] [0,0,0,4,12,1,35,127] [(.look,some 1),kp,kp,(.look,some 1),kp,(.store,some 2),kp,kp] rfl mixed (by kernel_rfl) ?_
          intro w194 hl194 hj194 hz194
          refine DL.look (v:=.agg #[.int .i64 j_b26_0_134,.bool false,.int .i64 j_b26_2_135,(.slice none 0 0),str ([] : List UInt8),t188_v,(.slice none 0 0)]) (x:=1) (b:=b26) (i:=0) rfl (Wn.none rfl) rfl rfl rfl rfl rfl (List.mem_of_getElem? (i:=1) rfl) (b_loadA ty_a27 ty_s27 rfl rfl rfl) ?_
          refine DL.mv 135 (.int .i64 t2_1) rfl rfl rfl ?_
          refine DL.pu 136 (ptr b26 0) rfl (p_fieldAddr ty_f27_0 rfl rfl) ?_
          refine DL.look (v:=.int .i64 j_b26_0_134) (x:=1) (b:=b26) (i:=3) rfl (Wn.none rfl) rfl rfl rfl rfl rfl (List.mem_of_getElem? (i:=1) rfl) (b_load ty_a22 rfl rfl rfl) ?_
          refine DL.pu 138 (.bool (j_b26_0_134 != 0)) rfl (p_neq rfl rfl rfl) ?_
          refine DL.put (H':=[(Value.ownBlock t188_v,.cells t188_c 50 (0,0)),(some b26,.cells (#[.int .i64 j_b26_0_134,.bool false,.int .i64 j_b26_2_135,(.slice none 0 0),str ([] : List UInt8),t188_v,(.slice none 0 0)]) 27 (0,0)),(some b1,.cells (#[.int .i64 j_b26_0_134,.bool false,.int .i64 j_b26_2_135,(.slice none 0 0),str ([] : List UInt8),t188_v,(.slice none 0 0)]) 27 (0,0))]) (i:=5) rfl (Wn.none rfl) rfl rfl (f_storeA (j:=2) ty_s27 rfl rfl rfl (one_cons trivial (one_cons trivial (one_cons trivial (one_cons (sl_one (RowV.sl (IntRow.nil .u8 M))) (one_cons trivial (one_cons (sl_one (OwnV.sl ho_t188)) (one_cons (sl_one (RowS.sl (RowS.nil ShDer M))) one_nil))))))) rfl rfl rfl) (keep_set (j:=2) hj194 rfl rfl rfl) ?_
          refine DL.pu 5 (.int .i64 t2_1) rfl (p_assign rfl rfl) ?_
          refine DL.pu 6 (.bool (j_b26_0_134 != 0)) rfl (p_assign rfl rfl) ?_
          refine DL.nil' hl194 ?_
          refine TT.freezeAt (j:=0) hE rfl ?_
          intro M195 I195 hE195 hx195 hxI195 hb195
          have hr_195 : IntRow M195 .u64 t188_v t188:=IntOwn.stays ho_t188 hb195
          show TT _ _ _ _ _ _ _ _ [(some b26,.cells (#[.int .i64 j_b26_0_134,.bool false,.int .i64 j_b26_2_135,(.slice none 0 0),str ([] : List UInt8),t188_v,(.slice none 0 0)]) 27 (0,0)),(some b1,.cells (#[.int .i64 j_b26_0_134,.bool false,.int .i64 j_b26_2_135,(.slice none 0 0),str ([] : List UInt8),t188_v,(.slice none 0 0)]) 27 (0,0))]
          simp only [Option.some.injEq,Prod.mk.injEq] at h192
          obtain ⟨rfl,rfl,rfl⟩:=h192
          exact retF (rs:=[.cell 4 27,.tmp 5,.tmp 6]) (vs:=[.agg #[.int .i64 j_b26_0_134,.bool false,.int .i64 j_b26_2_135,(.slice none 0 0),str ([] : List UInt8),t188_v,(.slice none 0 0)],.int .i64 t2_1,.bool (j_b26_0_134 != 0)]) ((.slice none 0 0),t188_v,(.slice none 0 0)) hE195 Tryd.func39 rfl rfl rfl (res_cons (ResV.cell (j:=1) ty_a27 ty_s27 rfl rfl rfl) (res_cons (ResV.tmp rfl) (res_cons (ResV.tmp rfl) res_nil))) ⟨(IntRow.nil .u8 M195),hr_195,(RowS.nil ShDer M195)⟩
         ·
          replace c186:=Bool.eq_false_iff.mpr c186
          have h196:=ite_false c186 h185
          refine TT.cond_false (x:=sub [1,1,1,1,1,1,1,0,1,0,1,1,1,1,1,1,1,1,1,0] B39) (y:=sub [1,1,1,1,1,1,1,0,1,0,1,1,1,1,1,1,1,1,1,1] B39) rfl c186 ?_
          refine TT.seq (x:=sub [1,1,1,1,1,1,1,0,1,0,1,1,1,1,1,1,1,1,1,1,0] B39) (y:=sub [1,1,1,1,1,1,1,0,1,0,1,1,1,1,1,1,1,1,1,1,1] B39) ?_
          refine TT.seq (x:=sub [1,1,1,1,1,1,1,0,1,0,1,1,1,1,1,1,1,1,1,1,0,0] B39) (y:=sub [1,1,1,1,1,1,1,0,1,0,1,1,1,1,1,1,1,1,1,1,0,1] B39) ?_
          refine TT.rg [0,1] [kp,kp] rfl rfl ?_
          refine DL.pu 102 (.bool (j_b26_0_134 == 6)) rfl (p_eql rfl rfl rfl) ?_
          refine DL.pu 101 (.bool (j_b26_0_134 == 6)) rfl (p_assign rfl rfl) ?_
          refine DL.nil ?_
          obtain ⟨j101_198,h199,h200⟩:=bind_some h196
          have J201 : TT Tryd.prog 39 (PostF (G:=Value × Value × Value) (fun g => .tuple #[.agg (Der.ce r_0 (g.1) (g.2.1) (g.2.2)),.int .i64 r_1,.bool r_2]) (fun g M_ => (IntRow M_ .u8 (g.1) (Der.bytes r_0)) ∧ (IntRow M_ .u64 (g.2.1) (Der.arcs r_0)) ∧ (RowS ShDer M_ (g.2.2) (Tree.kids r_0))) M w) 139 w (heapOf w) (.code (sub [1,1,1,1,1,1,1,0,1,0,1,1,1,1,1,1,1,1,1,1,1] B39) :: .inBlock 2 :: .code (sub [1,1,1,1,1,1,1,1] B39) :: []) [(1,.int .i64 a1),(4,ptr b1 0),(8,.int .i64 t2_1),(10,v16),(11,ptr b26 0),(66,.int .i64 j_b26_0_134),(101,.bool j101_198)] [(some b26,.cells (#[.int .i64 j_b26_0_134,.bool false,.int .i64 j_b26_2_135,(.slice none 0 0),str ([] : List UInt8),(.slice none 0 0),(.slice none 0 0)]) 27 (0,0)),(some b1,.cells (#[.int .i64 0,.bool false,.int .i64 0,(.slice none 0 0),str ([] : List UInt8),(.slice none 0 0),(.slice none 0 0)]) 27 (0,0))]:=by
           by_cases c205 : j101_198 = true
           ·
            have h206:=ite_true c205 h200
            refine TT.cond_true (x:=sub [1,1,1,1,1,1,1,0,1,0,1,1,1,1,1,1,1,1,1,1,1,0] B39) (y:=sub [1,1,1,1,1,1,1,0,1,0,1,1,1,1,1,1,1,1,1,1,1,1] B39) rfl c205 ?_
            refine TT.rg [0,1,2,3] [kp,kp,kp,(.store,none)] rfl rfl ?_
            refine DL.mv 104 (v16) rfl rfl rfl ?_
            refine DL.imm (v:=str (bytesL t23)) rfl (Wn.none rfl) rfl rfl rfl (i_bytesStr ty_us23 ty_us5 ty_us9 (IntRow.mono hr_v16 hE.mi) rfl rfl) ?_
            refine DL.pu 106 (ptr b26 4) rfl (p_fieldAddr ty_f27_4 rfl rfl) ?_
            refine DL.put (H':=[(some b26,.cells (#[.int .i64 j_b26_0_134,.bool false,.int .i64 j_b26_2_135,(.slice none 0 0),str (bytesL t23),(.slice none 0 0),(.slice none 0 0)]) 27 (0,0)),(some b1,.cells (#[.int .i64 0,.bool false,.int .i64 0,(.slice none 0 0),str ([] : List UInt8),(.slice none 0 0),(.slice none 0 0)]) 27 (0,0))]) (i:=3) rfl (Wn.none rfl) rfl rfl (f_store (c:=#[.int .i64 j_b26_0_134,.bool false,.int .i64 j_b26_2_135,(.slice none 0 0),str ([] : List UInt8),(.slice none 0 0),(.slice none 0 0)]) (v:=str (bytesL t23)) (off:=4) (j:=0) ty_s9 rfl rfl (of_decide_eq_true rfl) trivial rfl rfl rfl) (keep_none rfl) ?_
            refine DL.nil ?_
            refine TT.inBlock ?_
            refine TT.seq (x:=sub [1,1,1,1,1,1,1,1,0] B39) (y:=sub [1,1,1,1,1,1,1,1,1] B39) ?_
            refine TT.rgD [0,1,2,3,4,5,6,7] [0,0,0,4,12,1,35,127] [(.look,some 0),kp,kp,(.look,some 0),kp,(.store,some 1),kp,kp] rfl mixed (by kernel_rfl) ?_
            intro w207 hl207 hj207 hz207
            refine DL.look (v:=.agg #[.int .i64 j_b26_0_134,.bool false,.int .i64 j_b26_2_135,(.slice none 0 0),str (bytesL t23),(.slice none 0 0),(.slice none 0 0)]) (x:=0) (b:=b26) (i:=0) rfl (Wn.none rfl) rfl rfl rfl rfl rfl (List.mem_of_getElem? (i:=0) rfl) (b_loadA ty_a27 ty_s27 rfl rfl rfl) ?_
            refine DL.mv 135 (.int .i64 t2_1) rfl rfl rfl ?_
            refine DL.pu 136 (ptr b26 0) rfl (p_fieldAddr ty_f27_0 rfl rfl) ?_
            refine DL.look (v:=.int .i64 j_b26_0_134) (x:=0) (b:=b26) (i:=3) rfl (Wn.none rfl) rfl rfl rfl rfl rfl (List.mem_of_getElem? (i:=0) rfl) (b_load ty_a22 rfl rfl rfl) ?_
            refine DL.pu 138 (.bool (j_b26_0_134 != 0)) rfl (p_neq rfl rfl rfl) ?_
            refine DL.put (H':=[(some b26,.cells (#[.int .i64 j_b26_0_134,.bool false,.int .i64 j_b26_2_135,(.slice none 0 0),str (bytesL t23),(.slice none 0 0),(.slice none 0 0)]) 27 (0,0)),(some b1,.cells (#[.int .i64 j_b26_0_134,.bool false,.int .i64 j_b26_2_135,(.slice none 0 0),str (bytesL t23),(.slice none 0 0),(.slice none 0 0)]) 27 (0,0))]) (i:=5) rfl (Wn.none rfl) rfl rfl (f_storeA (j:=1) ty_s27 rfl rfl rfl (one_cons trivial (one_cons trivial (one_cons trivial (one_cons (sl_one (RowV.sl (IntRow.nil .u8 M))) (one_cons trivial (one_cons (sl_one (RowV.sl (IntRow.nil .u64 M))) (one_cons (sl_one (RowS.sl (RowS.nil ShDer M))) one_nil))))))) rfl rfl rfl) (keep_set (j:=1) hj207 rfl rfl rfl) ?_
            refine DL.pu 5 (.int .i64 t2_1) rfl (p_assign rfl rfl) ?_
            refine DL.pu 6 (.bool (j_b26_0_134 != 0)) rfl (p_assign rfl rfl) ?_
            refine DL.nil' hl207 ?_
            simp only [Option.some.injEq,Prod.mk.injEq] at h206
            obtain ⟨rfl,rfl,rfl⟩:=h206
            exact retF (rs:=[.cell 4 27,.tmp 5,.tmp 6]) (vs:=[.agg #[.int .i64 j_b26_0_134,.bool false,.int .i64 j_b26_2_135,(.slice none 0 0),str (bytesL t23),(.slice none 0 0),(.slice none 0 0)],.int .i64 t2_1,.bool (j_b26_0_134 != 0)]) ((.slice none 0 0),(.slice none 0 0),(.slice none 0 0)) hE Tryd.func39 rfl rfl rfl (res_cons (ResV.cell (j:=1) ty_a27 ty_s27 rfl rfl rfl) (res_cons (ResV.tmp rfl) (res_cons (ResV.tmp rfl) res_nil))) ⟨(IntRow.nil .u8 M),(IntRow.nil .u64 M),(RowS.nil ShDer M)⟩
           ·
            replace c205:=Bool.eq_false_iff.mpr c205
            have h208:=ite_false c205 h200
            refine TT.cond_false (x:=sub [1,1,1,1,1,1,1,0,1,0,1,1,1,1,1,1,1,1,1,1,1,0] B39) (y:=sub [1,1,1,1,1,1,1,0,1,0,1,1,1,1,1,1,1,1,1,1,1,1] B39) rfl c205 ?_
            refine TT.seq (x:=sub [1,1,1,1,1,1,1,0,1,0,1,1,1,1,1,1,1,1,1,1,1,1,0] B39) (y:=sub [1,1,1,1,1,1,1,0,1,0,1,1,1,1,1,1,1,1,1,1,1,1,1] B39) ?_
            refine TT.seq (x:=sub [1,1,1,1,1,1,1,0,1,0,1,1,1,1,1,1,1,1,1,1,1,1,0,0] B39) (y:=sub [1,1,1,1,1,1,1,0,1,0,1,1,1,1,1,1,1,1,1,1,1,1,0,1] B39) ?_
            refine TT.rg [0,1] [kp,kp] rfl rfl ?_
            refine DL.pu 108 (.bool (j_b26_0_134 == 7)) rfl (p_eql rfl rfl rfl) ?_
            refine DL.pu 107 (.bool (j_b26_0_134 == 7)) rfl (p_assign rfl rfl) ?_
            refine DL.nil ?_
            obtain ⟨j107_210,h211,h212⟩:=bind_some h208
            have J213 : TT Tryd.prog 39 (PostF (G:=Value × Value × Value) (fun g => .tuple #[.agg (Der.ce r_0 (g.1) (g.2.1) (g.2.2)),.int .i64 r_1,.bool r_2]) (fun g M_ => (IntRow M_ .u8 (g.1) (Der.bytes r_0)) ∧ (IntRow M_ .u64 (g.2.1) (Der.arcs r_0)) ∧ (RowS ShDer M_ (g.2.2) (Tree.kids r_0))) M w) 139 w (heapOf w) (.code (sub [1,1,1,1,1,1,1,0,1,0,1,1,1,1,1,1,1,1,1,1,1,1,1] B39) :: .inBlock 2 :: .code (sub [1,1,1,1,1,1,1,1] B39) :: []) [(1,.int .i64 a1),(4,ptr b1 0),(8,.int .i64 t2_1),(10,v16),(11,ptr b26 0),(107,.bool j107_210)] [(some b26,.cells (#[.int .i64 j_b26_0_134,.bool false,.int .i64 j_b26_2_135,(.slice none 0 0),str ([] : List UInt8),(.slice none 0 0),(.slice none 0 0)]) 27 (0,0)),(some b1,.cells (#[.int .i64 0,.bool false,.int .i64 0,(.slice none 0 0),str ([] : List UInt8),(.slice none 0 0),(.slice none 0 0)]) 27 (0,0))]:=by
             by_cases c225 : j107_210 = true
             ·
              have h226:=ite_true c225 h212
              refine TT.cond_true (x:=sub [1,1,1,1,1,1,1,0,1,0,1,1,1,1,1,1,1,1,1,1,1,1,1,0] B39) (y:=sub [1,1,1,1,1,1,1,0,1,0,1,1,1,1,1,1,1,1,1,1,1,1,1,1] B39) rfl c225 ?_
              refine TT.block (c:=sub [1,1,1,1,1,1,1,0,1,0,1,1,1,1,1,1,1,1,1,1,1,1,1,0,0] B39) ?_
              refine TT.nilOwn (e:=27) ?_
              refine TT.loop (c:=sub [1,1,1,1,1,1,1,0,1,0,1,1,1,1,1,1,1,1,1,1,1,1,1,0,0,0] B39) ?_
              rcases onw_some h226 with ⟨z_o227_303,h328,h329⟩ | ⟨⟨r331,r332,r333⟩,h328,h329⟩
              ·
               refine TT.weak (ref13_read.L1_ok hr_ref13_read a1 b1 t2_1 b26 j_b26_0_134 j_b26_2_135 ((t23.length : Int).toNat + 1) M (heapOf w) hE (Ext.refl _) ([] : List Der) t23 (.slice none 0 0) (#[]) v16 (.inl z_o227_303) (OwnS.nil ShDer M) hr_v16 h328 (fun M330 I330 hE330 hx330 z_o227_303_v z_o227_303_c ho_z_o227_303 => ?_)) (Sub.cons rfl (Sub.cons rfl (Sub.cons rfl (Sub.cons rfl (Sub.cons rfl (Sub.nil _))))))
               show TT _ _ _ _ _ _ _ _ _
               refine TT.inBlock ?_
               refine TT.seq (x:=sub [1,1,1,1,1,1,1,1,0] B39) (y:=sub [1,1,1,1,1,1,1,1,1] B39) ?_
               refine TT.rgD [0,1,2,3,4,5,6,7] [0,0,0,4,12,1,35,127] [(.look,some 1),kp,kp,(.look,some 1),kp,(.store,some 2),kp,kp] rfl mixed (by kernel_rfl) ?_
               intro w334 hl334 hj334 hz334
               refine DL.look (v:=.agg #[.int .i64 j_b26_0_134,.bool false,.int .i64 j_b26_2_135,(.slice none 0 0),str ([] : List UInt8),(.slice none 0 0),z_o227_303_v]) (x:=1) (b:=b26) (i:=0) rfl (Wn.none rfl) rfl rfl rfl rfl rfl (List.mem_of_getElem? (i:=1) rfl) (b_loadA ty_a27 ty_s27 rfl rfl rfl) ?_
               refine DL.mv 135 (.int .i64 t2_1) rfl rfl rfl ?_
               refine DL.pu 136 (ptr b26 0) rfl (p_fieldAddr ty_f27_0 rfl rfl) ?_
               refine DL.look (v:=.int .i64 j_b26_0_134) (x:=1) (b:=b26) (i:=3) rfl (Wn.none rfl) rfl rfl rfl rfl rfl (List.mem_of_getElem? (i:=1) rfl) (b_load ty_a22 rfl rfl rfl) ?_
               refine DL.pu 138 (.bool (j_b26_0_134 != 0)) rfl (p_neq rfl rfl rfl) ?_
               refine DL.put (H':=[(Value.ownBlock z_o227_303_v,.cells z_o227_303_c 27 (0,0)),(some b26,.cells (#[.int .i64 j_b26_0_134,.bool false,.int .i64 j_b26_2_135,(.slice none 0 0),str ([] : List UInt8),(.slice none 0 0),z_o227_303_v]) 27 (0,0)),(some b1,.cells (#[.int .i64 j_b26_0_134,.bool false,.int .i64 j_b26_2_135,(.slice none 0 0),str ([] : List UInt8),(.slice none 0 0),z_o227_303_v]) 27 (0,0))]) (i:=5) rfl (Wn.none rfl) rfl rfl (f_storeA (j:=2) ty_s27 rfl rfl rfl (one_cons trivial (one_cons trivial (one_cons trivial (one_cons (sl_one (RowV.sl (IntRow.nil .u8 M330))) (one_cons trivial (one_cons (sl_one (RowV.sl (IntRow.nil .u64 M330))) (one_cons (sl_one (OwnS.sl ho_z_o227_303)) one_nil))))))) rfl rfl rfl) (keep_set (j:=2) hj334 rfl rfl rfl) ?_
               refine DL.pu 5 (.int .i64 t2_1) rfl (p_assign rfl rfl) ?_
               refine DL.pu 6 (.bool (j_b26_0_134 != 0)) rfl (p_assign rfl rfl) ?_
               refine DL.nil' hl334 ?_
               refine TT.freezeAt (j:=0) hE330 rfl ?_
               intro M335 I335 hE335 hx335 hxI335 hb335
               have hr_335 : RowS ShDer M335 z_o227_303_v z_o227_303:=OwnS.stays ho_z_o227_303 hx335 hb335
               show TT _ _ _ _ _ _ _ _ [(some b26,.cells (#[.int .i64 j_b26_0_134,.bool false,.int .i64 j_b26_2_135,(.slice none 0 0),str ([] : List UInt8),(.slice none 0 0),z_o227_303_v]) 27 (0,0)),(some b1,.cells (#[.int .i64 j_b26_0_134,.bool false,.int .i64 j_b26_2_135,(.slice none 0 0),str ([] : List UInt8),(.slice none 0 0),z_o227_303_v]) 27 (0,0))]
               simp only [Option.some.injEq,Prod.mk.injEq] at h329
               obtain ⟨rfl,rfl,rfl⟩:=h329
               exact retF (rs:=[.cell 4 27,.tmp 5,.tmp 6]) (vs:=[.agg #[.int .i64 j_b26_0_134,.bool false,.int .i64 j_b26_2_135,(.slice none 0 0),str ([] : List UInt8),(.slice none 0 0),z_o227_303_v],.int .i64 t2_1,.bool (j_b26_0_134 != 0)]) ((.slice none 0 0),(.slice none 0 0),z_o227_303_v) hE335 Tryd.func39 rfl rfl rfl (res_cons (ResV.cell (j:=1) ty_a27 ty_s27 rfl rfl rfl) (res_cons (ResV.tmp rfl) (res_cons (ResV.tmp rfl) res_nil))) ⟨(IntRow.nil .u8 M335),(IntRow.nil .u64 M335),hr_335⟩
              ·
               simp only [Option.some.injEq,Prod.mk.injEq] at h329
               obtain ⟨rfl,rfl,rfl⟩:=h329
               exact TT.weak (ref13_read.L1_ok hr_ref13_read a1 b1 t2_1 b26 j_b26_0_134 j_b26_2_135 ((t23.length : Int).toNat + 1) M (heapOf w) hE (Ext.refl _) ([] : List Der) t23 (.slice none 0 0) (#[]) v16 (.inr (r331,r332,r333)) (OwnS.nil ShDer M) hr_v16 h328 rfl) (Sub.cons rfl (Sub.cons rfl (Sub.cons rfl (Sub.cons rfl (Sub.cons rfl (Sub.nil _))))))
             ·
              replace c225:=Bool.eq_false_iff.mpr c225
              have h336:=ite_false c225 h212
              refine TT.cond_false (x:=sub [1,1,1,1,1,1,1,0,1,0,1,1,1,1,1,1,1,1,1,1,1,1,1,0] B39) (y:=sub [1,1,1,1,1,1,1,0,1,0,1,1,1,1,1,1,1,1,1,1,1,1,1,1] B39) rfl c225 ?_
              refine TT.skip ?_
              refine TT.inBlock ?_
              refine TT.seq (x:=sub [1,1,1,1,1,1,1,1,0] B39) (y:=sub [1,1,1,1,1,1,1,1,1] B39) ?_
              refine TT.rgD [0,1,2,3,4,5,6,7] [0,0,0,4,12,1,35,127] [(.look,some 0),kp,kp,(.look,some 0),kp,(.store,some 1),kp,kp] rfl mixed (by kernel_rfl) ?_
              intro w337 hl337 hj337 hz337
              refine DL.look (v:=.agg #[.int .i64 j_b26_0_134,.bool false,.int .i64 j_b26_2_135,(.slice none 0 0),str ([] : List UInt8),(.slice none 0 0),(.slice none 0 0)]) (x:=0) (b:=b26) (i:=0) rfl (Wn.none rfl) rfl rfl rfl rfl rfl (List.mem_of_getElem? (i:=0) rfl) (b_loadA ty_a27 ty_s27 rfl rfl rfl) ?_
              refine DL.mv 135 (.int .i64 t2_1) rfl rfl rfl ?_
              refine DL.pu 136 (ptr b26 0) rfl (p_fieldAddr ty_f27_0 rfl rfl) ?_
              refine DL.look (v:=.int .i64 j_b26_0_134) (x:=0) (b:=b26) (i:=3) rfl (Wn.none rfl) rfl rfl rfl rfl rfl (List.mem_of_getElem? (i:=0) rfl) (b_load ty_a22 rfl rfl rfl) ?_
              refine DL.pu 138 (.bool (j_b26_0_134 != 0)) rfl (p_neq rfl rfl rfl) ?_
              refine DL.put (H':=[(some b26,.cells (#[.int .i64 j_b26_0_134,.bool false,.int .i64 j_b26_2_135,(.slice none 0 0),str ([] : List UInt8),(.slice none 0 0),(.slice none 0 0)]) 27 (0,0)),(some b1,.cells (#[.int .i64 j_b26_0_134,.bool false,.int .i64 j_b26_2_135,(.slice none 0 0),str ([] : List UInt8),(.slice none 0 0),(.slice none 0 0)]) 27 (0,0))]) (i:=5) rfl (Wn.none rfl) rfl rfl (f_storeA (j:=1) ty_s27 rfl rfl rfl (one_cons trivial (one_cons trivial (one_cons trivial (one_cons (sl_one (RowV.sl (IntRow.nil .u8 M))) (one_cons trivial (one_cons (sl_one (RowV.sl (IntRow.nil .u64 M))) (one_cons (sl_one (RowS.sl (RowS.nil ShDer M))) one_nil))))))) rfl rfl rfl) (keep_set (j:=1) hj337 rfl rfl rfl) ?_
              refine DL.pu 5 (.int .i64 t2_1) rfl (p_assign rfl rfl) ?_
              refine DL.pu 6 (.bool (j_b26_0_134 != 0)) rfl (p_assign rfl rfl) ?_
              refine DL.nil' hl337 ?_
              simp only [Option.some.injEq,Prod.mk.injEq] at h336
              obtain ⟨rfl,rfl,rfl⟩:=h336
              exact retF (rs:=[.cell 4 27,.tmp 5,.tmp 6]) (vs:=[.agg #[.int .i64 j_b26_0_134,.bool false,.int .i64 j_b26_2_135,(.slice none 0 0),str ([] : List UInt8),(.slice none 0 0),(.slice none 0 0)],.int .i64 t2_1,.bool (j_b26_0_134 != 0)]) ((.slice none 0 0),(.slice none 0 0),(.slice none 0 0)) hE Tryd.func39 rfl rfl rfl (res_cons (ResV.cell (j:=1) ty_a27 ty_s27 rfl rfl rfl) (res_cons (ResV.tmp rfl) (res_cons (ResV.tmp rfl) res_nil))) ⟨(IntRow.nil .u8 M),(IntRow.nil .u64 M),(RowS.nil ShDer M)⟩
            by_cases c209 : (j_b26_0_134 == 7) = true
            ·
             have h215:=ite_true c209 h211
             refine TT.cond_true (x:=sub [1,1,1,1,1,1,1,0,1,0,1,1,1,1,1,1,1,1,1,1,1,1,0,1,0] B39) (y:=sub [1,1,1,1,1,1,1,0,1,0,1,1,1,1,1,1,1,1,1,1,1,1,0,1,1] B39) rfl c209 ?_
             refine TT.skip ?_
             obtain rfl:=Option.some.inj h215
             exact TT.weak (J213 ) (Sub.cons rfl (Sub.cons rfl (Sub.cons rfl (Sub.cons rfl (Sub.cons rfl (Sub.cons rfl (Sub.nil _)))))))
            ·
             replace c209:=Bool.eq_false_iff.mpr c209
             have h216:=ite_false c209 h211
             refine TT.cond_false (x:=sub [1,1,1,1,1,1,1,0,1,0,1,1,1,1,1,1,1,1,1,1,1,1,0,1,0] B39) (y:=sub [1,1,1,1,1,1,1,0,1,0,1,1,1,1,1,1,1,1,1,1,1,1,0,1,1] B39) rfl c209 ?_
             refine TT.seq (x:=sub [1,1,1,1,1,1,1,0,1,0,1,1,1,1,1,1,1,1,1,1,1,1,0,1,1,0] B39) (y:=sub [1,1,1,1,1,1,1,0,1,0,1,1,1,1,1,1,1,1,1,1,1,1,0,1,1,1] B39) ?_
             refine TT.rg [0,1] [kp,kp] rfl rfl ?_
             refine DL.pu 109 (.bool (j_b26_0_134 == 9)) rfl (p_eql rfl rfl rfl) ?_
             refine DL.pu 107 (.bool (j_b26_0_134 == 9)) rfl (p_assign rfl rfl) ?_
             refine DL.nil ?_
             obtain ⟨j107_218,h219,h220⟩:=bind_some h216
             have J221 : TT Tryd.prog 39 (PostF (G:=Value × Value × Value) (fun g => .tuple #[.agg (Der.ce r_0 (g.1) (g.2.1) (g.2.2)),.int .i64 r_1,.bool r_2]) (fun g M_ => (IntRow M_ .u8 (g.1) (Der.bytes r_0)) ∧ (IntRow M_ .u64 (g.2.1) (Der.arcs r_0)) ∧ (RowS ShDer M_ (g.2.2) (Tree.kids r_0))) M w) 139 w (heapOf w) ((.code (sub [1,1,1,1,1,1,1,0,1,0,1,1,1,1,1,1,1,1,1,1,1,1,1] B39) :: .inBlock 2 :: .code (sub [1,1,1,1,1,1,1,1] B39) :: [])) [(1,.int .i64 a1),(4,ptr b1 0),(8,.int .i64 t2_1),(10,v16),(11,ptr b26 0),(107,.bool j107_218)] [(some b26,.cells (#[.int .i64 j_b26_0_134,.bool false,.int .i64 j_b26_2_135,(.slice none 0 0),str ([] : List UInt8),(.slice none 0 0),(.slice none 0 0)]) 27 (0,0)),(some b1,.cells (#[.int .i64 0,.bool false,.int .i64 0,(.slice none 0 0),str ([] : List UInt8),(.slice none 0 0),(.slice none 0 0)]) 27 (0,0))]:=by
              obtain rfl:=Option.some.inj h220
              exact TT.weak (J213 ) (Sub.cons rfl (Sub.cons rfl (Sub.cons rfl (Sub.cons rfl (Sub.cons rfl (Sub.cons rfl (Sub.nil _)))))))
             by_cases c217 : (j_b26_0_134 == 9) = true
             ·
              have h223:=ite_true c217 h219
              refine TT.cond_true (x:=sub [1,1,1,1,1,1,1,0,1,0,1,1,1,1,1,1,1,1,1,1,1,1,0,1,1,1,0] B39) (y:=sub [1,1,1,1,1,1,1,0,1,0,1,1,1,1,1,1,1,1,1,1,1,1,0,1,1,1,1] B39) rfl c217 ?_
              refine TT.skip ?_
              obtain rfl:=Option.some.inj h223
              exact TT.weak (J221 ) (Sub.cons rfl (Sub.cons rfl (Sub.cons rfl (Sub.cons rfl (Sub.cons rfl (Sub.cons rfl (Sub.nil _)))))))
             ·
              replace c217:=Bool.eq_false_iff.mpr c217
              have h224:=ite_false c217 h219
              refine TT.cond_false (x:=sub [1,1,1,1,1,1,1,0,1,0,1,1,1,1,1,1,1,1,1,1,1,1,0,1,1,1,0] B39) (y:=sub [1,1,1,1,1,1,1,0,1,0,1,1,1,1,1,1,1,1,1,1,1,1,0,1,1,1,1] B39) rfl c217 ?_
              refine TT.rg [0,1] [kp,kp] rfl rfl ?_
              refine DL.pu 110 (.bool (j_b26_0_134 == 8)) rfl (p_eql rfl rfl rfl) ?_
              refine DL.pu 107 (.bool (j_b26_0_134 == 8)) rfl (p_assign rfl rfl) ?_
              refine DL.nil ?_
              obtain rfl:=Option.some.inj h224
              exact TT.weak (J221 ) (Sub.cons rfl (Sub.cons rfl (Sub.cons rfl (Sub.cons rfl (Sub.cons rfl (Sub.cons rfl (Sub.nil _)))))))
          by_cases c197 : (j_b26_0_134 == 6) = true
          ·
           have h203:=ite_true c197 h199
           refine TT.cond_true (x:=sub [1,1,1,1,1,1,1,0,1,0,1,1,1,1,1,1,1,1,1,1,0,1,0] B39) (y:=sub [1,1,1,1,1,1,1,0,1,0,1,1,1,1,1,1,1,1,1,1,0,1,1] B39) rfl c197 ?_
           refine TT.skip ?_
           obtain rfl:=Option.some.inj h203
           exact TT.weak (J201 ) (Sub.cons rfl (Sub.cons rfl (Sub.cons rfl (Sub.cons rfl (Sub.cons rfl (Sub.cons rfl (Sub.cons rfl (Sub.nil _))))))))
          ·
           replace c197:=Bool.eq_false_iff.mpr c197
           have h204:=ite_false c197 h199
           refine TT.cond_false (x:=sub [1,1,1,1,1,1,1,0,1,0,1,1,1,1,1,1,1,1,1,1,0,1,0] B39) (y:=sub [1,1,1,1,1,1,1,0,1,0,1,1,1,1,1,1,1,1,1,1,0,1,1] B39) rfl c197 ?_
           refine TT.rg [0,1] [kp,kp] rfl rfl ?_
           refine DL.pu 103 (.bool (j_b26_0_134 == 10)) rfl (p_eql rfl rfl rfl) ?_
           refine DL.pu 101 (.bool (j_b26_0_134 == 10)) rfl (p_assign rfl rfl) ?_
           refine DL.nil ?_
           obtain rfl:=Option.some.inj h204
           exact TT.weak (J201 ) (Sub.cons rfl (Sub.cons rfl (Sub.cons rfl (Sub.cons rfl (Sub.cons rfl (Sub.cons rfl (Sub.cons rfl (Sub.nil _))))))))
    by_cases c133 : q126 = true
    ·
     have h140:=ite_true c133 h136
     refine TT.cond_true (x:=sub [1,1,1,1,1,1,0,1,0] B39) (y:=sub [1,1,1,1,1,1,0,1,1] B39) rfl c133 ?_
     refine TT.rgD [0,1,2,3,4,5,6,7,8] [0,1,3,7,15,0,32,127,255] [kp,kp,kp,kp,kp,kp,(.store,some 0),kp,(.store,some 0)] rfl mixed (by kernel_rfl) ?_
     intro w141 hl141 hj141 hz141
     refine DL.mv 58 (a0_v) rfl rfl rfl ?_
     refine DL.pu 59 (elp a0_v ((0 : Int).toNat)) rfl (p_slIx1 ty_u23 ty_s5 (RowV.some hr_a0 (by decide) g123) (by decide) g123 rfl rfl rfl) ?_
     refine DL.imm (v:=.int .u8 (a0.getD ((0 : Int).toNat) 0)) rfl (Wn.none rfl) rfl rfl rfl (i_loadEl (RowV.mono hr_a0 hE.mi) (encl_get .u8 (lt_len (by decide) g123)) ty_a5 rfl rfl) ?_
     refine DL.pu 61 (.int .i64 (IntKind.i64.wrap (a0.getD ((0 : Int).toNat) 0))) rfl (p_conv ty_u5 ty_u2 ⟨_,rfl⟩ rfl rfl) ?_
     obtain ⟨t142,e143,h144⟩:=nm_some h140
     refine DL.pu 62 (.int .i64 t142) rfl (by rw [e143]; exact p_sub rfl rfl rfl) ?_
     refine DL.pu 63 (ptr b26 0) rfl (p_fieldAddr ty_f27_0 rfl rfl) ?_
     refine DL.put (H':=[(some b26,.cells (#[.int .i64 8,.bool false,.int .i64 0,(.slice none 0 0),str ([] : List UInt8),(.slice none 0 0),(.slice none 0 0)]) 27 (0,0)),(some b1,.cells (#[.int .i64 0,.bool false,.int .i64 0,(.slice none 0 0),str ([] : List UInt8),(.slice none 0 0),(.slice none 0 0)]) 27 (0,0))]) (i:=6) rfl (Wn.none rfl) rfl rfl (f_store (c:=#[.int .i64 z_b26_0_99,.bool false,.int .i64 0,(.slice none 0 0),str ([] : List UInt8),(.slice none 0 0),(.slice none 0 0)]) (v:=.int .i64 8) (off:=0) (j:=0) ty_s22 rfl rfl (of_decide_eq_true rfl) trivial rfl rfl rfl) (keep_set (j:=0) hj141 rfl rfl rfl) ?_
     refine DL.pu 64 (ptr b26 2) rfl (p_fieldAddr ty_f27_2 rfl rfl) ?_
     refine DL.put (H':=[(some b26,.cells (#[.int .i64 8,.bool false,.int .i64 t142,(.slice none 0 0),str ([] : List UInt8),(.slice none 0 0),(.slice none 0 0)]) 27 (0,0)),(some b1,.cells (#[.int .i64 0,.bool false,.int .i64 0,(.slice none 0 0),str ([] : List UInt8),(.slice none 0 0),(.slice none 0 0)]) 27 (0,0))]) (i:=8) rfl (Wn.none rfl) rfl rfl (f_store (c:=#[.int .i64 8,.bool false,.int .i64 0,(.slice none 0 0),str ([] : List UInt8),(.slice none 0 0),(.slice none 0 0)]) (v:=.int .i64 t142) (off:=2) (j:=0) ty_s2 rfl rfl (of_decide_eq_true rfl) trivial rfl rfl rfl) (keep_set (j:=0) hj141 rfl rfl rfl) ?_
     refine DL.nil' hl141 ?_
     simp only [Option.some.injEq,Prod.mk.injEq] at h144
     obtain ⟨rfl,rfl⟩:=h144
     exact TT.weak (J138 ) (Sub.cons rfl (Sub.cons rfl (Sub.cons rfl (Sub.cons rfl (Sub.cons rfl (Sub.nil _))))))
    ·
     replace c133:=Bool.eq_false_iff.mpr c133
     have h145:=ite_false c133 h136
     refine TT.cond_false (x:=sub [1,1,1,1,1,1,0,1,0] B39) (y:=sub [1,1,1,1,1,1,0,1,1] B39) rfl c133 ?_
     refine TT.skip ?_
     simp only [Option.some.injEq,Prod.mk.injEq] at h145
     obtain ⟨rfl,rfl⟩:=h145
     exact TT.weak (J138 ) (Sub.cons rfl (Sub.cons rfl (Sub.cons rfl (Sub.cons rfl (Sub.cons rfl (Sub.nil _))))))
   ·
    by_cases c130 : (decide (160 ≤ (a0.getD ((0 : Int).toNat) 0))) = true
    ·
     have h131:=ite_true c130 h127
     refine DL.pure (v:=a0_v) rfl (Wn.yes c130 rfl rfl rfl rfl) rfl rfl rfl (p_move rfl rfl) ?_
     refine DL.pure (v:=elp a0_v ((0 : Int).toNat)) rfl (Wn.yes c130 rfl rfl rfl rfl) rfl rfl rfl (p_slIx1 ty_u23 ty_s5 (RowV.some hr_a0 (by decide) g123) (by decide) g123 rfl rfl rfl) ?_
     refine DL.imm (v:=.int .u8 (a0.getD ((0 : Int).toNat) 0)) rfl (Wn.yes c130 rfl rfl rfl rfl) rfl rfl rfl (i_loadEl (RowV.mono hr_a0 hE.mi) (encl_get .u8 (lt_len (by decide) g123)) ty_a5 rfl rfl) ?_
     refine DL.pure (v:=.bool (decide ((a0.getD ((0 : Int).toNat) 0) ≤ 190))) rfl (Wn.yes c130 rfl rfl rfl rfl) rfl rfl rfl (p_leq rfl rfl rfl) ?_
     refine DL.pu 57 (.bool (decide ((a0.getD ((0 : Int).toNat) 0) ≤ 190))) rfl (p_pick_t c130 rfl rfl rfl) ?_
     obtain rfl:=Option.some.inj h131
     exact DL.weak J129 (Sub.cons rfl (Sub.cons rfl (Sub.cons rfl (Sub.cons rfl (Sub.cons rfl (Sub.cons rfl (Sub.cons rfl (Sub.nil _))))))))
    ·
     replace c130:=Bool.eq_false_iff.mpr c130
     have h132:=ite_false c130 h127
     refine DL.not (i:=5) rfl (Wn.no c130 rfl rfl rfl rfl) rfl rfl ?_
     refine DL.not (i:=6) rfl (Wn.no c130 rfl rfl rfl rfl) rfl rfl ?_
     refine DL.not (i:=7) rfl (Wn.no c130 rfl rfl rfl rfl) rfl rfl ?_
     refine DL.not (i:=8) rfl (Wn.no c130 rfl rfl rfl rfl) rfl rfl ?_
     refine DL.pu 57 (.bool false) rfl (p_pick_f c130 rfl rfl rfl) ?_
     obtain rfl:=Option.some.inj h132
     exact DL.weak J129 (Sub.cons rfl (Sub.cons rfl (Sub.cons rfl (Sub.cons rfl (Sub.cons rfl (Sub.cons rfl (Sub.cons rfl (Sub.nil _))))))))
 ·
  by_cases c10 : (!t2_2) = true
  ·
   have h11:=ite_true c10 h7
   refine DL.not (i:=3) rfl (Wn.yes c10 rfl rfl rfl rfl) rfl rfl ?_
   refine DL.not (i:=4) rfl (Wn.yes c10 rfl rfl rfl rfl) rfl rfl ?_
   refine DL.pu 27 (.bool true) rfl (p_pick_t c10 rfl rfl rfl) ?_
   obtain rfl:=Option.some.inj h11
   exact DL.weak J9 (Sub.cons rfl (Sub.cons rfl (Sub.cons rfl (Sub.cons rfl (Sub.cons rfl (Sub.cons rfl (Sub.nil _)))))))
  ·
   replace c10:=Bool.eq_false_iff.mpr c10
   have h12:=ite_false c10 h7
   refine DL.pure (v:=.int .i64 a1) rfl (Wn.no c10 rfl rfl rfl rfl) rfl rfl rfl (p_move rfl rfl) ?_
   refine DL.pure (v:=.bool (decide (a1 < 1))) rfl (Wn.no c10 rfl rfl rfl rfl) rfl rfl rfl (p_lss rfl rfl rfl) ?_
   refine DL.pu 27 (.bool (decide (a1 < 1))) rfl (p_pick_f c10 rfl rfl rfl) ?_
   obtain rfl:=Option.some.inj h12
   exact DL.weak J9 (Sub.cons rfl (Sub.cons rfl (Sub.cons rfl (Sub.cons rfl (Sub.cons rfl (Sub.cons rfl (Sub.nil _)))))))
def ref13_read.f : Nat → (List Int) → Int → Option (Der × Int × Bool)
 | 0,_,_ => none
 | k + 1,a0,a1 => ref13_read.F (ref13_read.f k) a0 a1
theorem ref13_read.rec : ∀ k,ref13_read.Rec (ref13_read.f k):=by
 intro k
 induction k with
 | zero => intro _ _ _ _ _ _ h; simp [ref13_read.f] at h
 | succ k ih => intro a0 a1 a0_v r_0 r_1 r_2 h M w hM hr_a0; exact ref13_read.okF ih h w hM hr_a0
theorem ref13_read.ok {k : Nat} {a0 : List Int} {a1 : Int} {a0_v : Value} {r_0 : Der} {r_1 : Int} {r_2 : Bool} (h : ref13_read.f k a0 a1 = some (r_0,r_1,r_2)) {M : Mem} (w : World) (hM : Ext M (heapOf w)) (hr_a0 : IntRow M .u8 a0_v a0) : Calls Tryd.prog 39 #[a0_v,.int .i64 a1] w (PostF (G:=Value × Value × Value) (fun g => .tuple #[.agg (Der.ce r_0 (g.1) (g.2.1) (g.2.2)),.int .i64 r_1,.bool r_2]) (fun g M_ => (IntRow M_ .u8 (g.1) (Der.bytes r_0)) ∧ (IntRow M_ .u64 (g.2.1) (Der.arcs r_0)) ∧ (RowS ShDer M_ (g.2.2) (Tree.kids r_0))) M w) :=
 ref13_read.rec k h w hM hr_a0

/-! ### escutcheon/escutcheonref13.Of: function 20 -/
noncomputable def B20 : Code:=bodyOf Tryd.f20
def ref13_Of.f (a0 : List Int) : Option (Der × Bool):=if (decide (65000 < (a0.length : Int))) = true then (some (Der.mk 0 false 0 ([] : List Int) ([] : List UInt8) ([] : List Int) ([] : List Der),false)) else ((ref13_read.f ((12 : Int).toNat + 1) a0 12).bind fun (t5_0,t5_1,t5_2) => (if (!t5_2) = true then (some true) else (some (t5_1 != (a0.length : Int)))).bind fun q13 => (if q13 = true then (some true) else ((ref13_May.f ((12 : Int).toNat + 1) t5_0 12).bind fun t28 => some (!t28))).bind fun q21 => (if q21 = true then (some true) else ((ref13_Pack.f (Der.fuel t5_0) t5_0).bind fun t39 => some (!((bytesL t39) == (bytesL a0))))).bind fun q32 => if q32 = true then (some (Der.mk 0 false 0 ([] : List Int) ([] : List UInt8) ([] : List Int) ([] : List Der),false)) else (some (t5_0,true)))
set_option maxRecDepth 20000 in
theorem ref13_Of.ok {a0 : List Int} {a0_v : Value} {r_0 : Der} {r_1 : Bool} (h : ref13_Of.f a0 = some (r_0,r_1)) {M : Mem} (w : World) (hM : Ext M (heapOf w)) (hG : Glob M) (hr_a0 : IntRow M .u8 a0_v a0) : Calls Tryd.prog 20 #[a0_v] w (PostF (G:=Value × Value × Value) (fun g => .tuple #[.agg (Der.ce r_0 (g.1) (g.2.1) (g.2.2)),.bool r_1]) (fun g M_ => (IntRow M_ .u8 (g.1) (Der.bytes r_0)) ∧ (IntRow M_ .u64 (g.2.1) (Der.arcs r_0)) ∧ (RowS ShDer M_ (g.2.2) (Tree.kids r_0))) M w):=by
 unfold ref13_Of.f at h
 have hE:=Env.start hM
 refine calls_of_TT (N:=40) (S:=[(0,a0_v)]) (c:=B20) Tryd.func20 rfl rfl rfl (by simp) ?_
 show TT _ _ _ _ _ _ [.code (sub [] B20)] _ _
 refine TT.seq (x:=sub [0] B20) (y:=sub [1] B20) ?_
 refine TT.rg [0,1] [(.alloc,none),kp] rfl rfl ?_
 refine DL.new (ob:=.cells (#[.int .i64 0,.bool false,.int .i64 0,(.slice none 0 0),str ([] : List UInt8),(.slice none 0 0),(.slice none 0 0)]) 27) (mk:=fun b => ptr b 0) (i:=0) rfl (Wn.none rfl) rfl rfl rfl (f_alloc ty_z27 rfl) ?_
 intro b1 hb1
 refine DL.pu 3 (.bool false) rfl (p_assign rfl rfl) ?_
 refine DL.nil ?_
 refine TT.seq (x:=sub [1,0] B20) (y:=sub [1,1] B20) ?_
 refine TT.seq (x:=sub [1,0,0] B20) (y:=sub [1,0,1] B20) ?_
 refine TT.rg [0,1,2] [kp,kp,kp] rfl rfl ?_
 refine DL.mv 7 (a0_v) rfl rfl rfl ?_
 refine DL.pu 8 (.int .i64 (a0.length : Int)) rfl (p_slLen ty_u23 (RowV.sl hr_a0) rfl rfl) ?_
 refine DL.pu 9 (.bool (decide (65000 < (a0.length : Int)))) rfl (p_gtr rfl rfl rfl) ?_
 refine DL.nil ?_
 by_cases c2 : (decide (65000 < (a0.length : Int))) = true
 ·
  have h3:=ite_true c2 h
  refine TT.cond_true (x:=sub [1,0,1,0] B20) (y:=sub [1,0,1,1] B20) rfl c2 ?_
  refine TT.seq (x:=sub [1,0,1,0,0] B20) (y:=sub [1,0,1,0,1] B20) ?_
  refine TT.rg [0,1,2] [kp,(.store,none),kp] rfl rfl ?_
  refine DL.pu 10 (.agg #[.int .i64 0,.bool false,.int .i64 0,(.slice none 0 0),str ([] : List UInt8),(.slice none 0 0),(.slice none 0 0)]) rfl (p_build (vs:=[]) (fun w => by kernel_rfl) rfl rfl) ?_
  refine DL.put (H':=[(some b1,.cells (#[.int .i64 0,.bool false,.int .i64 0,(.slice none 0 0),str ([] : List UInt8),(.slice none 0 0),(.slice none 0 0)]) 27 (0,0))]) (i:=1) rfl (Wn.none rfl) rfl rfl (f_storeA (j:=0) ty_s27 rfl rfl rfl (one_cons trivial (one_cons trivial (one_cons trivial (one_cons (sl_one (RowV.sl (IntRow.nil .u8 M))) (one_cons trivial (one_cons (sl_one (RowV.sl (IntRow.nil .u64 M))) (one_cons (sl_one (RowS.sl (RowS.nil ShDer M))) one_nil))))))) rfl rfl rfl) (keep_none rfl) ?_
  refine DL.pu 3 (.bool false) rfl (p_assign rfl rfl) ?_
  refine DL.nil ?_
  simp only [Option.some.injEq,Prod.mk.injEq] at h3
  obtain ⟨rfl,rfl⟩:=h3
  exact retF (rs:=[.cell 2 27,.tmp 3]) (vs:=[.agg #[.int .i64 0,.bool false,.int .i64 0,(.slice none 0 0),str ([] : List UInt8),(.slice none 0 0),(.slice none 0 0)],.bool false]) ((.slice none 0 0),(.slice none 0 0),(.slice none 0 0)) hE Tryd.func20 rfl rfl rfl (res_cons (ResV.cell (j:=0) ty_a27 ty_s27 rfl rfl rfl) (res_cons (ResV.tmp rfl) res_nil)) ⟨(IntRow.nil .u8 M),(IntRow.nil .u64 M),(RowS.nil ShDer M)⟩
 ·
  replace c2:=Bool.eq_false_iff.mpr c2
  have h4:=ite_false c2 h
  refine TT.cond_false (x:=sub [1,0,1,0] B20) (y:=sub [1,0,1,1] B20) rfl c2 ?_
  refine TT.skip ?_
  refine TT.seq (x:=sub [1,1,0] B20) (y:=sub [1,1,1] B20) ?_
  refine TT.rg [0,1,2,3,4,5,6,7,8,9] [kp,kk,kp,kp,kp,kp,(.alloc,none),(.store,none),kp,kp] rfl rfl ?_
  refine DL.mv 12 (a0_v) rfl rfl rfl ?_
  obtain ⟨⟨t5_0,t5_1,t5_2⟩,h6,h7⟩:=bind_some h4
  refine DL.callF (G:=Value × Value × Value) (u:=fun g => .tuple #[.agg (Der.ce t5_0 (g.1) (g.2.1) (g.2.2)),.int .i64 t5_1,.bool t5_2]) (Q:=fun g M_ => (IntRow M_ .u8 (g.1) (Der.bytes t5_0)) ∧ (IntRow M_ .u64 (g.2.1) (Der.arcs t5_0)) ∧ (RowS ShDer M_ (g.2.2) (Tree.kids t5_0))) (A:=[(some b1,.cells (#[.int .i64 0,.bool false,.int .i64 0,(.slice none 0 0),str ([] : List UInt8),(.slice none 0 0),(.slice none 0 0)]) 27 (0,0))]) (J:=[]) (fun J8 => ((some b1,.cells (#[.int .i64 0,.bool false,.int .i64 0,(.slice none 0 0),str ([] : List UInt8),(.slice none 0 0),(.slice none 0 0)]) 27 (0,0)) :: J8)) (Nat.le_refl _) hE.nil (List.append_nil _).symm (fun _ => rfl) (by simp) (i:=1) rfl (Wn.none rfl) rfl rfl rfl rfl rfl rfl (args_val (vs:=[a0_v,.int .i64 12]) rfl) (fun w => enter39 _ w) (fun w hc hI => ref13_read.ok h6 (M:=M) w hI hr_a0) ?_
  rintro ⟨t5_0_3,t5_0_5,t5_0_6⟩ M8 J8 hE8 hx8 ⟨hr_t5_0_3,hr_t5_0_5,hr_t5_0_6⟩
  show DL _ _ _ _ _ _ _ _ _ _ _ _ ((some b1,.cells (#[.int .i64 0,.bool false,.int .i64 0,(.slice none 0 0),str ([] : List UInt8),(.slice none 0 0),(.slice none 0 0)]) 27 (0,0)) :: J8)
  refine DL.mv 11 (.tuple #[.agg (Der.ce t5_0 t5_0_3 t5_0_5 t5_0_6),.int .i64 t5_1,.bool t5_2]) rfl rfl rfl ?_
  refine DL.pu 14 (.agg (Der.ce t5_0 t5_0_3 t5_0_5 t5_0_6)) rfl (p_extract rfl rfl rfl) ?_
  refine DL.pu 15 (.int .i64 t5_1) rfl (p_extract rfl rfl rfl) ?_
  refine DL.pu 16 (.bool t5_2) rfl (p_extract rfl rfl rfl) ?_
  refine DL.new (ob:=.cells (#[.int .i64 0,.bool false,.int .i64 0,(.slice none 0 0),str ([] : List UInt8),(.slice none 0 0),(.slice none 0 0)]) 27) (mk:=fun b => ptr b 0) (i:=6) rfl (Wn.none rfl) rfl rfl rfl (f_alloc ty_z27 rfl) ?_
  intro b9 hb9
  refine DL.put (H':=((some b9,.cells ((Der.ce t5_0 t5_0_3 t5_0_5 t5_0_6)) 27 (0,0)) :: (some b1,.cells (#[.int .i64 0,.bool false,.int .i64 0,(.slice none 0 0),str ([] : List UInt8),(.slice none 0 0),(.slice none 0 0)]) 27 (0,0)) :: J8)) (i:=7) rfl (Wn.none rfl) rfl rfl (f_storeA (j:=0) ty_s27 rfl rfl rfl (one_cons trivial (one_cons trivial (one_cons trivial (one_cons (sl_one (RowV.sl hr_t5_0_3)) (one_cons trivial (one_cons (sl_one (RowV.sl hr_t5_0_5)) (one_cons (sl_one (RowS.sl hr_t5_0_6)) one_nil))))))) rfl rfl rfl) (keep_none rfl) ?_
  refine DL.pu 5 (.int .i64 t5_1) rfl (p_assign rfl rfl) ?_
  refine DL.pu 6 (.bool t5_2) rfl (p_assign rfl rfl) ?_
  refine DL.nil ?_
  refine TT.settle (A:=[(some b9,.cells ((Der.ce t5_0 t5_0_3 t5_0_5 t5_0_6)) 27 (0,0)),(some b1,.cells (#[.int .i64 0,.bool false,.int .i64 0,(.slice none 0 0),str ([] : List UInt8),(.slice none 0 0),(.slice none 0 0)]) 27 (0,0))]) (J:=J8) hE8 ?_
  intro I10 hE10 hxI10
  refine TT.seq (x:=sub [1,1,1,0] B20) (y:=sub [1,1,1,1] B20) ?_
  refine TT.seq (x:=sub [1,1,1,0,0] B20) (y:=sub [1,1,1,0,1] B20) ?_
  refine TT.rgD [0,1,2,3,4,5,6,7,8,9,10,11,12,13,14,17,18,15,16,19,20] [0,1,3,7,7,23,63,127,255,511,1023,2047,4095,8191,16383,32767,65535,16383,147455,524287,1048575] [kp,kp,kp,kp,kp,kp,kp,kp,kp,(.look,some 0),kq,kp,kp,kp,(.look,some 0),kk,kq,kp,kp,kp,kp] rfl mixed (by kernel_rfl) ?_
  intro w11 hl11 hj11 hz11
  refine DL.mv 17 (.bool t5_2) rfl rfl rfl ?_
  refine DL.pu 18 (.bool (!t5_2)) rfl (p_not rfl rfl) ?_
  refine DL.mv 19 (.bool (!t5_2)) rfl rfl rfl ?_
  obtain ⟨q13,h14,h15⟩:=bind_some h7
  refine DL.cut [(0,a0_v),(2,ptr b1 0),(4,ptr b9 0),(24,.bool q13)] [8,9,10,11,12,13,14,17,18,15,16,19,20] ?_ (fun J16 => ?_)
  ·
   refine DL.mv 25 (.bool q13) rfl rfl rfl ?_
   obtain ⟨q21,h22,h23⟩:=bind_some h15
   refine DL.cut [(0,a0_v),(2,ptr b1 0),(4,ptr b9 0),(29,.bool q21)] [13,14,17,18,15,16,19,20] ?_ (fun J24 => ?_)
   ·
    refine DL.mv 30 (.bool q21) rfl rfl rfl ?_
    obtain ⟨q32,h33,h34⟩:=bind_some h23
    refine DL.cutJ [(some b9,.cells ((Der.ce t5_0 t5_0_3 t5_0_5 t5_0_6)) 27 (0,0)),(some b1,.cells (#[.int .i64 0,.bool false,.int .i64 0,(.slice none 0 0),str ([] : List UInt8),(.slice none 0 0),(.slice none 0 0)]) 27 (0,0))] M8 hE10 [(2,ptr b1 0),(4,ptr b9 0),(37,.bool q32)] [] ?_ (fun J35 => ?_)
    ·
     intro M36 J36 hE36 hx36
     show DL _ _ _ _ _ _ _ _ _ _ _ _ ((some b9,.cells ((Der.ce t5_0 t5_0_3 t5_0_5 t5_0_6)) 27 (0,0)) :: (some b1,.cells (#[.int .i64 0,.bool false,.int .i64 0,(.slice none 0 0),str ([] : List UInt8),(.slice none 0 0),(.slice none 0 0)]) 27 (0,0)) :: J36)
     refine DL.nil' hl11 ?_
     refine TT.settle (A:=[(some b9,.cells ((Der.ce t5_0 t5_0_3 t5_0_5 t5_0_6)) 27 (0,0)),(some b1,.cells (#[.int .i64 0,.bool false,.int .i64 0,(.slice none 0 0),str ([] : List UInt8),(.slice none 0 0),(.slice none 0 0)]) 27 (0,0))]) (J:=J36) hE36 ?_
     intro I43 hE43 hxI43
     by_cases c44 : q32 = true
     ·
      have h45:=ite_true c44 h34
      refine TT.cond_true (x:=sub [1,1,1,0,1,0] B20) (y:=sub [1,1,1,0,1,1] B20) rfl c44 ?_
      refine TT.seq (x:=sub [1,1,1,0,1,0,0] B20) (y:=sub [1,1,1,0,1,0,1] B20) ?_
      refine TT.rg [0,1,2] [kp,(.store,none),kp] rfl rfl ?_
      refine DL.pu 38 (.agg #[.int .i64 0,.bool false,.int .i64 0,(.slice none 0 0),str ([] : List UInt8),(.slice none 0 0),(.slice none 0 0)]) rfl (p_build (vs:=[]) (fun w => by kernel_rfl) rfl rfl) ?_
      refine DL.put (H':=[(some b9,.cells ((Der.ce t5_0 t5_0_3 t5_0_5 t5_0_6)) 27 (0,0)),(some b1,.cells (#[.int .i64 0,.bool false,.int .i64 0,(.slice none 0 0),str ([] : List UInt8),(.slice none 0 0),(.slice none 0 0)]) 27 (0,0))]) (i:=1) rfl (Wn.none rfl) rfl rfl (f_storeA (j:=1) ty_s27 rfl rfl rfl (one_cons trivial (one_cons trivial (one_cons trivial (one_cons (sl_one (RowV.sl (IntRow.nil .u8 M36))) (one_cons trivial (one_cons (sl_one (RowV.sl (IntRow.nil .u64 M36))) (one_cons (sl_one (RowS.sl (RowS.nil ShDer M36))) one_nil))))))) rfl rfl rfl) (keep_none rfl) ?_
      refine DL.pu 3 (.bool false) rfl (p_assign rfl rfl) ?_
      refine DL.nil ?_
      simp only [Option.some.injEq,Prod.mk.injEq] at h45
      obtain ⟨rfl,rfl⟩:=h45
      exact retF (rs:=[.cell 2 27,.tmp 3]) (vs:=[.agg #[.int .i64 0,.bool false,.int .i64 0,(.slice none 0 0),str ([] : List UInt8),(.slice none 0 0),(.slice none 0 0)],.bool false]) ((.slice none 0 0),(.slice none 0 0),(.slice none 0 0)) hE43 Tryd.func20 rfl rfl rfl (res_cons (ResV.cell (j:=1) ty_a27 ty_s27 rfl rfl rfl) (res_cons (ResV.tmp rfl) res_nil)) ⟨(IntRow.nil .u8 M36),(IntRow.nil .u64 M36),(RowS.nil ShDer M36)⟩
     ·
      replace c44:=Bool.eq_false_iff.mpr c44
      have h46:=ite_false c44 h34
      refine TT.cond_false (x:=sub [1,1,1,0,1,0] B20) (y:=sub [1,1,1,0,1,1] B20) rfl c44 ?_
      refine TT.skip ?_
      refine TT.seq (x:=sub [1,1,1,1,0] B20) (y:=sub [1,1,1,1,1] B20) ?_
      refine TT.rg [0,1,2] [kq,(.store,none),kp] rfl rfl ?_
      refine DL.qu 39 (.agg (Der.ce t5_0 t5_0_3 t5_0_5 t5_0_6)) rfl (f_loadA (j:=0) ty_a27 ty_s27 rfl rfl rfl rfl) ?_
      refine DL.put (H':=[(some b9,.cells ((Der.ce t5_0 t5_0_3 t5_0_5 t5_0_6)) 27 (0,0)),(some b1,.cells ((Der.ce t5_0 t5_0_3 t5_0_5 t5_0_6)) 27 (0,0))]) (i:=1) rfl (Wn.none rfl) rfl rfl (f_storeA (j:=1) ty_s27 rfl rfl rfl (one_cons trivial (one_cons trivial (one_cons trivial (one_cons (sl_one (RowV.sl (IntRow.mono hr_t5_0_3 hx36))) (one_cons trivial (one_cons (sl_one (RowV.sl (IntRow.mono hr_t5_0_5 hx36))) (one_cons (sl_one (RowS.sl (RowS.mono hr_t5_0_6 hx36))) one_nil))))))) rfl rfl rfl) (keep_none rfl) ?_
      refine DL.pu 3 (.bool true) rfl (p_assign rfl rfl) ?_
      refine DL.nil ?_
      simp only [Option.some.injEq,Prod.mk.injEq] at h46
      obtain ⟨rfl,rfl⟩:=h46
      exact retF (rs:=[.cell 2 27,.tmp 3]) (vs:=[.agg (Der.ce t5_0 t5_0_3 t5_0_5 t5_0_6),.bool true]) (t5_0_3,t5_0_5,t5_0_6) hE43 Tryd.func20 rfl rfl rfl (res_cons (ResV.cell (j:=1) ty_a27 ty_s27 rfl rfl rfl) (res_cons (ResV.tmp rfl) res_nil)) ⟨(IntRow.mono hr_t5_0_3 hx36),(IntRow.mono hr_t5_0_5 hx36),(RowS.mono hr_t5_0_6 hx36)⟩
    ·
     by_cases c31 : q21 = true
     ·
      have h37:=ite_true c31 h33
      refine DL.not (i:=14) rfl (Wn.yes c31 rfl rfl rfl rfl) rfl rfl ?_
      refine DL.not (i:=17) rfl (Wn.yes c31 rfl rfl rfl rfl) rfl rfl ?_
      refine DL.not (i:=18) rfl (Wn.yes c31 rfl rfl rfl rfl) rfl rfl ?_
      refine DL.not (i:=15) rfl (Wn.yes c31 rfl rfl rfl rfl) rfl rfl ?_
      refine DL.not (i:=16) rfl (Wn.yes c31 rfl rfl rfl rfl) rfl rfl ?_
      refine DL.not (i:=19) rfl (Wn.yes c31 rfl rfl rfl rfl) rfl rfl ?_
      refine DL.pu 37 (.bool true) rfl (p_pick_t c31 rfl rfl rfl) ?_
      obtain rfl:=Option.some.inj h37
      exact DL.weak (J35 _ _ hE10.nil (Ext.refl _)) (Sub.cons rfl (Sub.cons rfl (Sub.cons rfl (Sub.nil _))))
     ·
      replace c31:=Bool.eq_false_iff.mpr c31
      have h38:=ite_false c31 h33
      refine DL.look (v:=.agg (Der.ce t5_0 t5_0_3 t5_0_5 t5_0_6)) (x:=0) (b:=b9) (i:=14) rfl (Wn.no c31 rfl rfl rfl rfl) rfl rfl rfl rfl rfl (List.mem_of_getElem? (i:=0) rfl) (b_loadA ty_a27 ty_s27 rfl rfl rfl) ?_
      refine DL.pure (v:=a0_v) rfl (Wn.no c31 rfl rfl rfl rfl) rfl rfl rfl (p_move rfl rfl) ?_
      refine DL.imm (v:=str (bytesL a0)) rfl (Wn.no c31 rfl rfl rfl rfl) rfl rfl rfl (i_bytesStr ty_us23 ty_us5 ty_us9 (IntRow.mono (IntRow.mono hr_a0 hx8) hE10.mi) rfl rfl) ?_
      obtain ⟨t39,h40,h41⟩:=bind_some h38
      refine DL.callF (G:=Value) (u:=fun g => g) (Q:=fun g M_ => (IntRow M_ .u8 g t39)) (A:=[(some b9,.cells ((Der.ce t5_0 t5_0_3 t5_0_5 t5_0_6)) 27 (0,0)),(some b1,.cells (#[.int .i64 0,.bool false,.int .i64 0,(.slice none 0 0),str ([] : List UInt8),(.slice none 0 0),(.slice none 0 0)]) 27 (0,0))]) (J:=[]) (fun J42 => ((some b9,.cells ((Der.ce t5_0 t5_0_3 t5_0_5 t5_0_6)) 27 (0,0)) :: (some b1,.cells (#[.int .i64 0,.bool false,.int .i64 0,(.slice none 0 0),str ([] : List UInt8),(.slice none 0 0),(.slice none 0 0)]) 27 (0,0)) :: J42)) hl11.2.2.2 hE10.nil (List.append_nil _).symm (fun _ => rfl) (by simp) (i:=15) rfl (Wn.no c31 rfl rfl rfl rfl) rfl rfl rfl rfl rfl rfl (args_val (vs:=[.agg (Der.ce t5_0 t5_0_3 t5_0_5 t5_0_6)]) rfl) (fun w => enter32 _ w) (fun w hc hI => ref13_Pack.ok h40 (M:=M8) w hI hr_t5_0_3 hr_t5_0_5 hr_t5_0_6) ?_
      rintro t39_v M42 J42 hE42 hx42 hr_t39
      show DL _ _ _ _ _ _ _ _ _ _ _ _ ((some b9,.cells ((Der.ce t5_0 t5_0_3 t5_0_5 t5_0_6)) 27 (0,0)) :: (some b1,.cells (#[.int .i64 0,.bool false,.int .i64 0,(.slice none 0 0),str ([] : List UInt8),(.slice none 0 0),(.slice none 0 0)]) 27 (0,0)) :: J42)
      refine DL.quiet (v:=str (bytesL t39)) rfl (Wn.no c31 rfl rfl rfl rfl) rfl rfl rfl (q_bytesStr ty_us23 ty_us5 ty_us9 (fun w hc => RowV.mono hr_t39 (hE42.extJ (A:=[(some b9,.cells ((Der.ce t5_0 t5_0_3 t5_0_5 t5_0_6)) 27 (0,0)),(some b1,.cells (#[.int .i64 0,.bool false,.int .i64 0,(.slice none 0 0),str ([] : List UInt8),(.slice none 0 0),(.slice none 0 0)]) 27 (0,0))]) hc rfl)) rfl rfl) ?_
      refine DL.pure (v:=.bool (!((bytesL t39) == (bytesL a0)))) rfl (Wn.no c31 rfl rfl rfl rfl) rfl rfl rfl (p_strNe rfl rfl rfl) ?_
      refine DL.pu 37 (.bool (!((bytesL t39) == (bytesL a0)))) rfl (p_pick_f c31 rfl rfl rfl) ?_
      obtain rfl:=Option.some.inj h41
      exact DL.weak (J35 _ _ hE42 hx42) (Sub.cons rfl (Sub.cons rfl (Sub.cons rfl (Sub.nil _))))
   ·
    by_cases c25 : q13 = true
    ·
     have h26:=ite_true c25 h22
     refine DL.not (i:=9) rfl (Wn.yes c25 rfl rfl rfl rfl) rfl rfl ?_
     refine DL.not (i:=10) rfl (Wn.yes c25 rfl rfl rfl rfl) rfl rfl ?_
     refine DL.not (i:=11) rfl (Wn.yes c25 rfl rfl rfl rfl) rfl rfl ?_
     refine DL.pu 29 (.bool true) rfl (p_pick_t c25 rfl rfl rfl) ?_
     obtain rfl:=Option.some.inj h26
     exact DL.weak J24 (Sub.cons rfl (Sub.cons rfl (Sub.cons rfl (Sub.cons rfl (Sub.nil _)))))
    ·
     replace c25:=Bool.eq_false_iff.mpr c25
     have h27:=ite_false c25 h22
     refine DL.look (v:=.agg (Der.ce t5_0 t5_0_3 t5_0_5 t5_0_6)) (x:=0) (b:=b9) (i:=9) rfl (Wn.no c25 rfl rfl rfl rfl) rfl rfl rfl rfl rfl (List.mem_of_getElem? (i:=0) rfl) (b_loadA ty_a27 ty_s27 rfl rfl rfl) ?_
     obtain ⟨t28,h29,h30⟩:=bind_some h27
     refine DL.quiet (v:=.bool t28) rfl (Wn.no c25 rfl rfl rfl rfl) rfl rfl rfl (f_callR rfl rfl (args_val (vs:=[.agg (Der.ce t5_0 t5_0_3 t5_0_5 t5_0_6),.int .i64 12]) rfl) (fun w => enter15 _ w) (fun w hc => ref13_May.val h29 (M:=M8) w (hE10.ext hc) (Glob.mono hG hx8) hr_t5_0_3 hr_t5_0_5 hr_t5_0_6)) ?_
     refine DL.pure (v:=.bool (!t28)) rfl (Wn.no c25 rfl rfl rfl rfl) rfl rfl rfl (p_not rfl rfl) ?_
     refine DL.pu 29 (.bool (!t28)) rfl (p_pick_f c25 rfl rfl rfl) ?_
     obtain rfl:=Option.some.inj h30
     exact DL.weak J24 (Sub.cons rfl (Sub.cons rfl (Sub.cons rfl (Sub.cons rfl (Sub.nil _)))))
  ·
   by_cases c17 : (!t5_2) = true
   ·
    have h18:=ite_true c17 h14
    refine DL.not (i:=3) rfl (Wn.yes c17 rfl rfl rfl rfl) rfl rfl ?_
    refine DL.not (i:=4) rfl (Wn.yes c17 rfl rfl rfl rfl) rfl rfl ?_
    refine DL.not (i:=5) rfl (Wn.yes c17 rfl rfl rfl rfl) rfl rfl ?_
    refine DL.not (i:=6) rfl (Wn.yes c17 rfl rfl rfl rfl) rfl rfl ?_
    refine DL.pu 24 (.bool true) rfl (p_pick_t c17 rfl rfl rfl) ?_
    obtain rfl:=Option.some.inj h18
    exact DL.weak J16 (Sub.cons rfl (Sub.cons rfl (Sub.cons rfl (Sub.cons rfl (Sub.nil _)))))
   ·
    replace c17:=Bool.eq_false_iff.mpr c17
    have h19:=ite_false c17 h14
    refine DL.pure (v:=.int .i64 t5_1) rfl (Wn.no c17 rfl rfl rfl rfl) rfl rfl rfl (p_move rfl rfl) ?_
    refine DL.pure (v:=a0_v) rfl (Wn.no c17 rfl rfl rfl rfl) rfl rfl rfl (p_move rfl rfl) ?_
    refine DL.pure (v:=.int .i64 (a0.length : Int)) rfl (Wn.no c17 rfl rfl rfl rfl) rfl rfl rfl (p_slLen ty_u23 (RowV.sl (IntRow.mono hr_a0 hx8)) rfl rfl) ?_
    refine DL.pure (v:=.bool (t5_1 != (a0.length : Int))) rfl (Wn.no c17 rfl rfl rfl rfl) rfl rfl rfl (p_neq rfl rfl rfl) ?_
    refine DL.pu 24 (.bool (t5_1 != (a0.length : Int))) rfl (p_pick_f c17 rfl rfl rfl) ?_
    obtain rfl:=Option.some.inj h19
    exact DL.weak J16 (Sub.cons rfl (Sub.cons rfl (Sub.cons rfl (Sub.cons rfl (Sub.nil _)))))

@[reducible] def der_value.Rec (r_ : (List Int) → Int → Option (Der × Int × Bool)) : Prop:=∀ {a0 : List Int} {a1 : Int} {a0_v : Value} {r_0 : Der} {r_1 : Int} {r_2 : Bool},r_ a0 a1 = some (r_0,r_1,r_2) → ∀ {M : Mem} (w : World) (hM : Ext M (heapOf w)) (hr_a0 : IntRow M .u8 a0_v a0),Calls Tryd.prog 38 #[a0_v,.int .i64 a1] w ((PostF (G:=Value × Value × Value) (fun g => .tuple #[.agg (Der.ce r_0 (g.1) (g.2.1) (g.2.2)),.int .i64 r_1,.bool r_2]) (fun g M_ => (IntRow M_ .u8 (g.1) (Der.bytes r_0)) ∧ (IntRow M_ .u64 (g.2.1) (Der.arcs r_0)) ∧ (RowS ShDer M_ (g.2.2) (Tree.kids r_0))) M w))

/-! ### escutcheon/der.kids: function 55 -/
noncomputable def B55 : Code:=bodyOf Tryd.f55
def der_kids.L0 (r_der_value : (List Int) → Int → Option (Der × Int × Bool)) (a1 : Int) : Nat → (List Der) → (List Int) → Option ((List Der) ⊕ (List Der × Bool))
 | 0,_,_ => none
 | k + 1,y_2,x0_3 => if (decide (0 < (x0_3.length : Int))) = true then ((r_der_value x0_3 a1).bind fun (t80_0,t80_1,t80_2) => if (!t80_2) = true then (some (.inr (([] : List Der),false))) else (req (0 ≤ t80_1) (req (t80_1 ≤ (x0_3.length : Int)) (req (y_2.length + [t80_0].length ≤ 1099511627776) (der_kids.L0 r_der_value a1 k (y_2 ++ [t80_0]) (x0_3.drop t80_1.toNat)))))) else (some (.inl y_2))
set_option maxRecDepth 20000 in
theorem der_kids.L0_ok {r_der_value : (List Int) → Int → Option (Der × Int × Bool)} (hr_der_value : der_value.Rec r_der_value) (a1 : Int) {r_0 : List Der} {r_1 : Bool}  {w0 : World} {M0 Mb : Mem} {K : List Item} :
  ∀ (k : Nat) (M I : Mem) (hE : Env w0 M0 M I) (hx : Ext Mb M) (y_2 : List Der) (x0_3 : List Int) (y_2_v : Value) (y_2_c : Array Value) (x0_3_v : Value) (q : (List Der) ⊕ (List Der × Bool)) (ho_y_2 : OwnS ShDer M y_2_v y_2_c y_2) (hr_x0_3 : IntRow M .u8 x0_3_v x0_3) (h : der_kids.L0 r_der_value a1 k y_2 x0_3 = some q) (hk : match (generalizing:=false) q with | .inl r0_ => (∀ (M' I' : Mem),Env w0 M0 M' I' → Ext Mb M' → ∀ (z_o1_77_v : Value),∀ (z_o1_77_c : Array Value),OwnS ShDer M' z_o1_77_v z_o1_77_c r0_ → TT Tryd.prog 55 (PostF (G:=Value) (fun g => .tuple #[g,.bool r_1]) (fun g M_ => (RowS ShDer M_ g r_0)) M0 w0) 30 w0 I' K [(6,z_o1_77_v)] [(Value.ownBlock z_o1_77_v,.cells z_o1_77_c 27 (0,0))]) | .inr (r_0q,r_1q) => (r_0q,r_1q) = (r_0,r_1)),
   TT Tryd.prog 55 (PostF (G:=Value) (fun g => .tuple #[g,.bool r_1]) (fun g M_ => (RowS ShDer M_ g r_0)) M0 w0) 30 w0 I (.code (sub [1,1,0,0,0] B55) :: .inLoop (sub [1,1,0,0,0] B55) :: .inBlock 0 :: K) [(0,x0_3_v),(1,.int .i64 a1),(6,y_2_v)] [(Value.ownBlock y_2_v,.cells y_2_c 27 (0,0))]:=by
 intro k
 induction k with
 | zero => intro M I hE hx y_2 x0_3 y_2_v y_2_c x0_3_v q ho_y_2 hr_x0_3 h; simp [der_kids.L0] at h
 | succ k ih =>
  intro M I hE hx y_2 x0_3 y_2_v y_2_c x0_3_v q ho_y_2 hr_x0_3 h hk
  unfold der_kids.L0 at h
  refine TT.seq (x:=sub [1,1,0,0,0,0] B55) (y:=sub [1,1,0,0,0,1] B55) ?_
  refine TT.seq (x:=sub [1,1,0,0,0,0,0] B55) (y:=sub [1,1,0,0,0,0,1] B55) ?_
  refine TT.rg [0,1,2] [kp,kp,kp] rfl rfl ?_
  refine DL.mv 10 (x0_3_v) rfl rfl rfl ?_
  refine DL.pu 11 (.int .i64 (x0_3.length : Int)) rfl (p_slLen ty_u23 (RowV.sl hr_x0_3) rfl rfl) ?_
  refine DL.pu 12 (.bool (decide (0 < (x0_3.length : Int)))) rfl (p_gtr rfl rfl rfl) ?_
  refine DL.nil ?_
  by_cases c78 : (decide (0 < (x0_3.length : Int))) = true
  ·
   have h79:=ite_true c78 h
   refine TT.cond_true (x:=sub [1,1,0,0,0,0,1,0] B55) (y:=sub [1,1,0,0,0,0,1,1] B55) rfl c78 ?_
   refine TT.skip ?_
   refine TT.block (c:=sub [1,1,0,0,0,1,0] B55) ?_
   refine TT.seq (x:=sub [1,1,0,0,0,1,0,0] B55) (y:=sub [1,1,0,0,0,1,0,1] B55) ?_
   refine TT.rg [0,1,2,3,4,5,6,7,8,9,10] [kp,kp,kk,kp,kp,kp,kp,(.alloc,none),(.store,none),kp,kp] rfl rfl ?_
   refine DL.mv 14 (x0_3_v) rfl rfl rfl ?_
   refine DL.mv 15 (.int .i64 a1) rfl rfl rfl ?_
   obtain ⟨⟨t80_0,t80_1,t80_2⟩,h81,h82⟩:=bind_some h79
   refine DL.callF (G:=Value × Value × Value) (u:=fun g => .tuple #[.agg (Der.ce t80_0 (g.1) (g.2.1) (g.2.2)),.int .i64 t80_1,.bool t80_2]) (Q:=fun g M_ => (IntRow M_ .u8 (g.1) (Der.bytes t80_0)) ∧ (IntRow M_ .u64 (g.2.1) (Der.arcs t80_0)) ∧ (RowS ShDer M_ (g.2.2) (Tree.kids t80_0))) (A:=[(Value.ownBlock y_2_v,.cells y_2_c 27 (0,0))]) (J:=[]) (fun J83 => ((Value.ownBlock y_2_v,.cells y_2_c 27 (0,0)) :: J83)) (Nat.le_refl _) hE.nil (List.append_nil _).symm (fun _ => rfl) (by simp) (i:=2) rfl (Wn.none rfl) rfl rfl rfl rfl rfl rfl (args_val (vs:=[x0_3_v,.int .i64 a1]) rfl) (fun w => enter38 _ w) (fun w hc hI => hr_der_value h81 (M:=M) w hI hr_x0_3) ?_
   rintro ⟨t80_0_3,t80_0_5,t80_0_6⟩ M83 J83 hE83 hx83 ⟨hr_t80_0_3,hr_t80_0_5,hr_t80_0_6⟩
   show DL _ _ _ _ _ _ _ _ _ _ _ _ ((Value.ownBlock y_2_v,.cells y_2_c 27 (0,0)) :: J83)
   refine DL.mv 13 (.tuple #[.agg (Der.ce t80_0 t80_0_3 t80_0_5 t80_0_6),.int .i64 t80_1,.bool t80_2]) rfl rfl rfl ?_
   refine DL.pu 17 (.agg (Der.ce t80_0 t80_0_3 t80_0_5 t80_0_6)) rfl (p_extract rfl rfl rfl) ?_
   refine DL.pu 18 (.int .i64 t80_1) rfl (p_extract rfl rfl rfl) ?_
   refine DL.pu 19 (.bool t80_2) rfl (p_extract rfl rfl rfl) ?_
   refine DL.new (ob:=.cells (#[.int .i64 0,.bool false,.int .i64 0,(.slice none 0 0),str ([] : List UInt8),(.slice none 0 0),(.slice none 0 0)]) 27) (mk:=fun b => ptr b 0) (i:=7) rfl (Wn.none rfl) rfl rfl rfl (f_alloc ty_z27 rfl) ?_
   intro b84 hb84
   refine DL.put (H':=((some b84,.cells ((Der.ce t80_0 t80_0_3 t80_0_5 t80_0_6)) 27 (0,0)) :: (Value.ownBlock y_2_v,.cells y_2_c 27 (0,0)) :: J83)) (i:=8) rfl (Wn.none rfl) rfl rfl (f_storeA (j:=0) ty_s27 rfl rfl rfl (one_cons trivial (one_cons trivial (one_cons trivial (one_cons (sl_one (RowV.sl hr_t80_0_3)) (one_cons trivial (one_cons (sl_one (RowV.sl hr_t80_0_5)) (one_cons (sl_one (RowS.sl hr_t80_0_6)) one_nil))))))) rfl rfl rfl) (keep_none rfl) ?_
   refine DL.pu 8 (.int .i64 t80_1) rfl (p_assign rfl rfl) ?_
   refine DL.pu 9 (.bool t80_2) rfl (p_assign rfl rfl) ?_
   refine DL.nil ?_
   refine TT.settle (A:=[(some b84,.cells ((Der.ce t80_0 t80_0_3 t80_0_5 t80_0_6)) 27 (0,0)),(Value.ownBlock y_2_v,.cells y_2_c 27 (0,0))]) (J:=J83) hE83 ?_
   intro I85 hE85 hxI85
   refine TT.seq (x:=sub [1,1,0,0,0,1,0,1,0] B55) (y:=sub [1,1,0,0,0,1,0,1,1] B55) ?_
   refine TT.seq (x:=sub [1,1,0,0,0,1,0,1,0,0] B55) (y:=sub [1,1,0,0,0,1,0,1,0,1] B55) ?_
   refine TT.rg [0,1] [kp,kp] rfl rfl ?_
   refine DL.mv 20 (.bool t80_2) rfl rfl rfl ?_
   refine DL.pu 21 (.bool (!t80_2)) rfl (p_not rfl rfl) ?_
   refine DL.nil ?_
   by_cases c86 : (!t80_2) = true
   ·
    have h87:=ite_true c86 h82
    refine TT.cond_true (x:=sub [1,1,0,0,0,1,0,1,0,1,0] B55) (y:=sub [1,1,0,0,0,1,0,1,0,1,1] B55) rfl c86 ?_
    refine TT.seq (x:=sub [1,1,0,0,0,1,0,1,0,1,0,0] B55) (y:=sub [1,1,0,0,0,1,0,1,0,1,0,1] B55) ?_
    refine TT.rg [0,1] [kp,kp] rfl rfl ?_
    refine DL.pu 4 (.slice none 0 0) rfl (p_assign rfl rfl) ?_
    refine DL.pu 5 (.bool false) rfl (p_assign rfl rfl) ?_
    refine DL.nil ?_
    obtain rfl:=Option.some.inj h87
    have k88 : (([] : List Der),false) = (r_0,r_1):=hk
    simp only [Prod.mk.injEq] at k88
    obtain ⟨rfl,rfl⟩:=k88
    exact retF (rs:=[.tmp 4,.tmp 5]) (vs:=[(.slice none 0 0),.bool false]) (.slice none 0 0) hE85 Tryd.func55 rfl rfl rfl (res_cons (ResV.tmp rfl) (res_cons (ResV.tmp rfl) res_nil)) (RowS.nil ShDer M83)
   ·
    replace c86:=Bool.eq_false_iff.mpr c86
    have h89:=ite_false c86 h82
    refine TT.cond_false (x:=sub [1,1,0,0,0,1,0,1,0,1,0] B55) (y:=sub [1,1,0,0,0,1,0,1,0,1,1] B55) rfl c86 ?_
    refine TT.skip ?_
    refine TT.rgD [0,1,2,4,5,6,3,7,8] [0,0,2,7,0,0,48,15,255] [kp,(.look,some 0),(.alloc,none),kx,kp,kp,kp,kp,kp] rfl mixed (by kernel_rfl) ?_
    intro w90 hl90 hj90 hz90
    refine DL.mv 22 (y_2_v) rfl rfl rfl ?_
    refine DL.look (v:=.agg (Der.ce t80_0 t80_0_3 t80_0_5 t80_0_6)) (x:=0) (b:=b84) (i:=1) rfl (Wn.none rfl) rfl rfl rfl rfl rfl (List.mem_of_getElem? (i:=0) rfl) (b_loadA ty_a27 ty_s27 rfl rfl rfl) ?_
    refine DL.newS (M:=M83) (s:=ShDer) (zs:=[t80_0]) (cells:=[.int .i64 (Der.kind t80_0),.bool (Der.flag t80_0),.int .i64 (Der.num t80_0),t80_0_3,str (Der.text t80_0),t80_0_5,t80_0_6]) (n:=1) rfl (by decide) rfl (fun i x hx => by match i,hx with | 0,hx => cases hx; exact (Der.cl (t:=t80_0) hr_t80_0_3 hr_t80_0_5 hr_t80_0_6) | k + 1,hx => simp at hx) (i:=2) rfl (Wn.none rfl) rfl rfl rfl (f_buildS (n:=1) (vs:=[(0,.agg (Der.ce t80_0 t80_0_3 t80_0_5 t80_0_6))]) elem25 rfl rfl (by kernel_rfl) rfl (args_val2 rfl)) ?_
    intro s92_v s92_c ho_s92
    refine DL.mv 26 (x0_3_v) rfl rfl rfl ?_
    refine DL.mv 27 (.int .i64 t80_1) rfl rfl rfl ?_
    obtain ⟨g94,h95⟩:=req_some h89
    obtain ⟨g96,h97⟩:=req_some h95
    obtain ⟨v93,v93_e⟩ : ∃ u,u = subsl x0_3_v 1 t80_1.toNat x0_3.length:=⟨_,rfl⟩
    have hr_v93 : IntRow M83 .u8 v93 (x0_3.drop t80_1.toNat):=by rw [v93_e]; exact (IntRow.subL (IntRow.mono hr_x0_3 hx83) (toNat_le g96))
    refine DL.pu 28 (v93) rfl (by rw [v93_e]; exact p_subL ty_u23 ty_s5 (IntRow.mono hr_x0_3 hx83) g94 g96 rfl rfl rfl) ?_
    obtain ⟨g98,h99⟩:=req_some h97
    refine DL.appendS (M:=M83) (s:=ShDer) (fun s100_v s100_c => [(Value.ownBlock s92_v,.cells s92_c 27 (0,0)),(some b84,.cells ((Der.ce t80_0 t80_0_3 t80_0_5 t80_0_6)) 27 (0,0)),(Value.ownBlock s100_v,.cells s100_c 27 (0,0))]) elem25 (j:=2) rfl (OwnS.mono ho_y_2 hx83) g98 (by decide) (OwnS.src (i:=0) ho_s92 rfl) (i:=3) rfl (Wn.none rfl) rfl rfl rfl rfl rfl rfl (fun _ _ => rfl) ?_
    intro s100_v s100_c ho_s100
    show DL _ _ _ _ _ _ _ _ _ _ _ _ [(Value.ownBlock s92_v,.cells s92_c 27 (0,0)),(some b84,.cells ((Der.ce t80_0 t80_0_3 t80_0_5 t80_0_6)) 27 (0,0)),(Value.ownBlock s100_v,.cells s100_c 27 (0,0))]
    refine DL.pu 6 (s100_v) rfl (p_assign rfl rfl) ?_
    refine DL.pu 0 (v93) rfl (p_assign rfl rfl) ?_
    refine DL.nil' hl90 ?_
    refine TT.inBlock ?_
    refine TT.inLoop ?_
    exact TT.pick [2] (by decide) (TT.weak (ih M83 I85 hE85 (hx.trans hx83) (y_2 ++ [t80_0]) (x0_3.drop t80_1.toNat) s100_v s100_c v93 _ ho_s100 hr_v93 h99 hk) (Sub.cons rfl (Sub.cons rfl (Sub.cons rfl (Sub.nil _)))))
  ·
   replace c78:=Bool.eq_false_iff.mpr c78
   have h101:=ite_false c78 h
   refine TT.cond_false (x:=sub [1,1,0,0,0,0,1,0] B55) (y:=sub [1,1,0,0,0,0,1,1] B55) rfl c78 ?_
   refine TT.exit rfl ?_
   obtain rfl:=Option.some.inj h101
   exact TT.weak (hk M I hE hx y_2_v y_2_c ho_y_2) (Sub.cons rfl (Sub.nil _))

def der_kids.f (r_der_value : (List Int) → Int → Option (Der × Int × Bool)) (a0 : List Int) (a1 : Int) : Option ((List Der) × Bool):=onw (der_kids.L0 r_der_value a1 ((a0.length : Int).toNat + 1) ([] : List Der) a0) (fun z_o1_77 => some (z_o1_77,true)) (fun r => some r)
set_option maxRecDepth 20000 in
theorem der_kids.ok {r_der_value : (List Int) → Int → Option (Der × Int × Bool)} (hr_der_value : der_value.Rec r_der_value) {a0 : List Int} {a1 : Int} {a0_v : Value} {r_0 : List Der} {r_1 : Bool} (h : der_kids.f r_der_value a0 a1 = some (r_0,r_1)) {M : Mem} (w : World) (hM : Ext M (heapOf w)) (hr_a0 : IntRow M .u8 a0_v a0) : Calls Tryd.prog 55 #[a0_v,.int .i64 a1] w (PostF (G:=Value) (fun g => .tuple #[g,.bool r_1]) (fun g M_ => (RowS ShDer M_ g r_0)) M w):=by
 unfold der_kids.f at h
 have hE:=Env.start hM
 refine calls_of_TT (N:=30) (S:=[(0,a0_v),(1,.int .i64 a1)]) (c:=B55) Tryd.func55 rfl rfl rfl (by simp) ?_
 show TT _ _ _ _ _ _ [.code (sub [] B55)] _ _
 refine TT.seq (x:=sub [0] B55) (y:=sub [1] B55) ?_
 refine TT.rg [0,1] [kp,kp] rfl rfl ?_
 refine DL.pu 4 (.slice none 0 0) rfl (p_assign rfl rfl) ?_
 refine DL.pu 5 (.bool false) rfl (p_assign rfl rfl) ?_
 refine DL.nil ?_
 refine TT.seq (x:=sub [1,0] B55) (y:=sub [1,1] B55) ?_
 refine TT.rg [0] [kp] rfl rfl ?_
 refine DL.pu 6 (.slice none 0 0) rfl (p_assign rfl rfl) ?_
 refine DL.nil ?_
 refine TT.seq (x:=sub [1,1,0] B55) (y:=sub [1,1,1] B55) ?_
 refine TT.block (c:=sub [1,1,0,0] B55) ?_
 refine TT.nilOwn (e:=27) ?_
 refine TT.loop (c:=sub [1,1,0,0,0] B55) ?_
 rcases onw_some h with ⟨z_o1_77,h102,h103⟩ | ⟨⟨r105,r106⟩,h102,h103⟩
 ·
  refine TT.weak (der_kids.L0_ok hr_der_value a1 ((a0.length : Int).toNat + 1) M (heapOf w) hE (Ext.refl _) ([] : List Der) a0 (.slice none 0 0) (#[]) a0_v (.inl z_o1_77) (OwnS.nil ShDer M) hr_a0 h102 (fun M104 I104 hE104 hx104 z_o1_77_v z_o1_77_c ho_z_o1_77 => ?_)) (Sub.cons rfl (Sub.cons rfl (Sub.cons rfl (Sub.nil _))))
  show TT _ _ _ _ _ _ _ _ _
  refine TT.seq (x:=sub [1,1,1,0] B55) (y:=sub [1,1,1,1] B55) ?_
  refine TT.rg [0,1,2] [kp,kp,kp] rfl rfl ?_
  refine DL.mv 29 (z_o1_77_v) rfl rfl rfl ?_
  refine DL.pu 4 (z_o1_77_v) rfl (p_assign rfl rfl) ?_
  refine DL.pu 5 (.bool true) rfl (p_assign rfl rfl) ?_
  refine DL.nil ?_
  refine TT.freezeAt (j:=0) hE104 rfl ?_
  intro M107 I107 hE107 hx107 hxI107 hb107
  have hr_107 : RowS ShDer M107 z_o1_77_v z_o1_77:=OwnS.stays ho_z_o1_77 hx107 hb107
  show TT _ _ _ _ _ _ _ _ []
  simp only [Option.some.injEq,Prod.mk.injEq] at h103
  obtain ⟨rfl,rfl⟩:=h103
  exact retF (rs:=[.tmp 4,.tmp 5]) (vs:=[z_o1_77_v,.bool true]) z_o1_77_v hE107 Tryd.func55 rfl rfl rfl (res_cons (ResV.tmp rfl) (res_cons (ResV.tmp rfl) res_nil)) hr_107
 ·
  simp only [Option.some.injEq,Prod.mk.injEq] at h103
  obtain ⟨rfl,rfl⟩:=h103
  exact TT.weak (der_kids.L0_ok hr_der_value a1 ((a0.length : Int).toNat + 1) M (heapOf w) hE (Ext.refl _) ([] : List Der) a0 (.slice none 0 0) (#[]) a0_v (.inr (r105,r106)) (OwnS.nil ShDer M) hr_a0 h102 rfl) (Sub.cons rfl (Sub.cons rfl (Sub.cons rfl (Sub.nil _))))

end Go.Proofs.YtjhknfpociahoaaDoor
