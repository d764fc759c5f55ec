import Derived.Test.YtjhknfpociahoaaDoorDerX
import Derived.Test.YtjhknfpociahoaaDoorHw19
namespace Go.Proofs.YtjhknfpociahoaaDoor
open Go Go.HW Go.RowKit
set_option linter.unusedVariables false
set_option linter.unusedSimpArgs false

/-! ### escutcheon/escutcheonlaw13.DerMakes: function 9 -/
noncomputable def B9 : Code:=bodyOf Tryd.f9
def law13_DerMakes.L0 : Nat → (List Int) → Int → Option (List Int)
 | 0,_,_ => none
 | k + 1,y_79,x20_80 => if (decide (x20_80 < (y_79.length : Int))) = true then (req (0 ≤ x20_80) (req (x20_80 < (y_79.length : Int)) (nm (IntKind.u8.wrap ((y_79.getD x20_80.toNat 0) + 1)) fun t150 => law13_DerMakes.L0 k (y_79.set x20_80.toNat t150) (IntKind.i64.wrap (x20_80 + 1))))) else (some y_79)
set_option maxRecDepth 20000 in
theorem law13_DerMakes.L0_ok (a0 : Int) (a1 : List UInt8) (a2_v : Value) (a3_v : Value) (a4_0 : Der) (a4_0_3 : Value) (a4_0_5 : Value) (a4_0_6 : Value) (a4_1 : Der) (a4_1_3 : Value) (a4_1_5 : Value) (a4_1_6 : Value) (a5 : Int) (b1 : Nat) (t50 : Der) (t50_3 : Value) (t50_5 : Value) (t50_6 : Value) (t54 : Der) (t54_3 : Value) (t54_5 : Value) (t54_6 : Value) (b58 : Nat) (b59 : Nat) (s64_v : Value) (s64_c : Array Value) (t65 : Der) (t65_3 : Value) (t65_5 : Value) (t65_6 : Value) (b69 : Nat) (s72_v : Value) (s72_c : Array Value) (t73 : Der) (t73_3 : Value) (t73_5 : Value) (t73_6 : Value) (b77 : Nat) {R : Ending → World → Prop} {w0 : World} {M0 M I : Mem} {K : List Item} (hE : Env w0 M0 M I) :
  ∀ (k : Nat) (y_79 : List Int) (x20_80 : Int) (y_79_v : Value) (y_79_c : Array Value) (r0_ : List Int) (ho_y_79 : IntOwn .u8 y_79_v y_79_c y_79) (h : law13_DerMakes.L0 k y_79 x20_80 = some r0_) (hk : ∀ (z_o46_143_v : Value),∀ (z_o46_143_c : Array Value),IntOwn .u8 z_o46_143_v z_o46_143_c r0_ → TT Tryd.prog 9 R 161 w0 I K [(0,.int .i64 a0),(1,str a1),(2,a2_v),(3,a3_v),(5,.int .i64 a5),(10,ptr b1 0),(14,ptr b58 0),(15,ptr b59 0),(16,s64_v),(17,ptr b69 0),(18,s72_v),(19,ptr b77 0)] [(some b77,.cells ((Der.ce t73 t73_3 t73_5 t73_6)) 27 (0,0)),(Value.ownBlock s72_v,.cells s72_c 27 (0,0)),(some b69,.cells ((Der.ce t65 t65_3 t65_5 t65_6)) 27 (0,0)),(Value.ownBlock s64_v,.cells s64_c 50 (0,0)),(some b59,.cells ((Der.ce t54 t54_3 t54_5 t54_6)) 27 (0,0)),(some b58,.cells ((Der.ce t50 t50_3 t50_5 t50_6)) 27 (0,0)),(Value.ownBlock z_o46_143_v,.cells z_o46_143_c 5 (0,0)),(some b1,.cells (#[.int .i64 (Der.kind a4_0),.bool (Der.flag a4_0),.int .i64 (Der.num a4_0),a4_0_3,str (Der.text a4_0),a4_0_5,a4_0_6,.int .i64 (Der.kind a4_1),.bool (Der.flag a4_1),.int .i64 (Der.num a4_1),a4_1_3,str (Der.text a4_1),a4_1_5,a4_1_6]) 56 (0,0))]),
   TT Tryd.prog 9 R 161 w0 I (.code (sub [1,1,1,1,1,1,1,1,0,1,0,0] B9) :: .inLoop (sub [1,1,1,1,1,1,1,1,0,1,0,0] B9) :: .inBlock 0 :: K) [(0,.int .i64 a0),(1,str a1),(2,a2_v),(3,a3_v),(5,.int .i64 a5),(10,ptr b1 0),(13,y_79_v),(14,ptr b58 0),(15,ptr b59 0),(16,s64_v),(17,ptr b69 0),(18,s72_v),(19,ptr b77 0),(20,.int .i64 x20_80)] [(some b77,.cells ((Der.ce t73 t73_3 t73_5 t73_6)) 27 (0,0)),(Value.ownBlock s72_v,.cells s72_c 27 (0,0)),(some b69,.cells ((Der.ce t65 t65_3 t65_5 t65_6)) 27 (0,0)),(Value.ownBlock s64_v,.cells s64_c 50 (0,0)),(some b59,.cells ((Der.ce t54 t54_3 t54_5 t54_6)) 27 (0,0)),(some b58,.cells ((Der.ce t50 t50_3 t50_5 t50_6)) 27 (0,0)),(Value.ownBlock y_79_v,.cells y_79_c 5 (0,0)),(some b1,.cells (#[.int .i64 (Der.kind a4_0),.bool (Der.flag a4_0),.int .i64 (Der.num a4_0),a4_0_3,str (Der.text a4_0),a4_0_5,a4_0_6,.int .i64 (Der.kind a4_1),.bool (Der.flag a4_1),.int .i64 (Der.num a4_1),a4_1_3,str (Der.text a4_1),a4_1_5,a4_1_6]) 56 (0,0))]:=by
 intro k
 induction k with
 | zero => intro y_79 x20_80 y_79_v y_79_c r0_ ho_y_79 h; simp [law13_DerMakes.L0] at h
 | succ k ih =>
  intro y_79 x20_80 y_79_v y_79_c r0_ ho_y_79 h hk
  unfold law13_DerMakes.L0 at h
  refine TT.seq (x:=sub [1,1,1,1,1,1,1,1,0,1,0,0,0] B9) (y:=sub [1,1,1,1,1,1,1,1,0,1,0,0,1] B9) ?_
  refine TT.seq (x:=sub [1,1,1,1,1,1,1,1,0,1,0,0,0,0] B9) (y:=sub [1,1,1,1,1,1,1,1,0,1,0,0,0,1] B9) ?_
  refine TT.rg [0,1,2,3] [kp,kp,kp,kp] rfl rfl ?_
  refine DL.mv 65 (.int .i64 x20_80) rfl rfl rfl ?_
  refine DL.mv 66 (y_79_v) rfl rfl rfl ?_
  refine DL.pu 67 (.int .i64 (y_79.length : Int)) rfl (p_slLen ty_u23 (OwnV.sl ho_y_79) rfl rfl) ?_
  refine DL.pu 68 (.bool (decide (x20_80 < (y_79.length : Int)))) rfl (p_lss rfl rfl rfl) ?_
  refine DL.nil ?_
  by_cases c144 : (decide (x20_80 < (y_79.length : Int))) = true
  ·
   have h145:=ite_true c144 h
   refine TT.cond_true (x:=sub [1,1,1,1,1,1,1,1,0,1,0,0,0,1,0] B9) (y:=sub [1,1,1,1,1,1,1,1,0,1,0,0,0,1,1] B9) rfl c144 ?_
   refine TT.skip ?_
   refine TT.seq (x:=sub [1,1,1,1,1,1,1,1,0,1,0,0,1,0] B9) (y:=sub [1,1,1,1,1,1,1,1,0,1,0,0,1,1] B9) ?_
   refine TT.block (c:=sub [1,1,1,1,1,1,1,1,0,1,0,0,1,0,0] B9) ?_
   refine TT.rg [0,1,2,3,4,5,6,7,8] [kp,kp,kp,kp,kp,kq,kp,kp,(.store,none)] rfl rfl ?_
   refine DL.mv 71 (y_79_v) rfl rfl rfl ?_
   refine DL.mv 72 (.int .i64 x20_80) rfl rfl rfl ?_
   refine DL.mv 73 (y_79_v) rfl rfl rfl ?_
   refine DL.mv 74 (.int .i64 x20_80) rfl rfl rfl ?_
   obtain ⟨g146,h147⟩:=req_some h145
   obtain ⟨g148,h149⟩:=req_some h147
   refine DL.pu 75 (elp y_79_v x20_80.toNat) rfl (p_slIx1 ty_u23 ty_s5 (OwnV.some ho_y_79 g146 g148) g146 g148 rfl rfl rfl) ?_
   refine DL.qu 76 (.int .u8 (y_79.getD x20_80.toNat 0)) rfl (f_loadEl (i:=6) rfl ho_y_79 (encl_get .u8 (lt_len g146 g148)) ty_a5 rfl rfl) ?_
   obtain ⟨t150,e151,h152⟩:=nm_some h149
   refine DL.pu 77 (.int .u8 t150) rfl (by rw [e151]; exact p_add rfl rfl rfl) ?_
   refine DL.pu 78 (elp y_79_v x20_80.toNat) rfl (p_slIx1 ty_u23 ty_s5 (OwnV.some ho_y_79 g146 g148) g146 g148 rfl rfl rfl) ?_
   obtain ⟨c153,c153_e⟩ : ∃ c,c = y_79_c.setIfInBounds x20_80.toNat (.int .u8 t150):=⟨_,rfl⟩
   have ho_154 : IntOwn .u8 y_79_v c153 (y_79.set x20_80.toNat t150):=by rw [c153_e]; exact IntOwn.set ho_y_79 (lt_len g146 g148) t150
   refine DL.put (H':=[(some b77,.cells ((Der.ce t73 t73_3 t73_5 t73_6)) 27 (0,0)),(Value.ownBlock s72_v,.cells s72_c 27 (0,0)),(some b69,.cells ((Der.ce t65 t65_3 t65_5 t65_6)) 27 (0,0)),(Value.ownBlock s64_v,.cells s64_c 50 (0,0)),(some b59,.cells ((Der.ce t54 t54_3 t54_5 t54_6)) 27 (0,0)),(some b58,.cells ((Der.ce t50 t50_3 t50_5 t50_6)) 27 (0,0)),(Value.ownBlock y_79_v,.cells c153 5 (0,0)),(some b1,.cells (#[.int .i64 (Der.kind a4_0),.bool (Der.flag a4_0),.int .i64 (Der.num a4_0),a4_0_3,str (Der.text a4_0),a4_0_5,a4_0_6,.int .i64 (Der.kind a4_1),.bool (Der.flag a4_1),.int .i64 (Der.num a4_1),a4_1_3,str (Der.text a4_1),a4_1_5,a4_1_6]) 56 (0,0))]) (i:=8) rfl (Wn.none rfl) rfl rfl (by rw [c153_e]; exact f_storeEl (i:=6) ty_s5 rfl ho_y_79 (lt_len1 g146 g148) rfl trivial rfl rfl rfl) (keep_none rfl) ?_
   refine DL.nil ?_
   refine TT.inBlock ?_
   refine TT.rg [0,1,2] [kp,kp,kp] rfl rfl ?_
   refine DL.mv 69 (.int .i64 x20_80) rfl rfl rfl ?_
   refine DL.pu 70 (.int .i64 (IntKind.i64.wrap (x20_80 + 1))) rfl (p_add rfl rfl rfl) ?_
   refine DL.pu 20 (.int .i64 (IntKind.i64.wrap (x20_80 + 1))) rfl (p_assign rfl rfl) ?_
   refine DL.nil ?_
   refine TT.inLoop ?_
   exact TT.weak (ih (y_79.set x20_80.toNat t150) (IntKind.i64.wrap (x20_80 + 1)) y_79_v c153 r0_ ho_154 h152 hk) (Sub.cons rfl (Sub.cons rfl (Sub.cons rfl (Sub.cons rfl (Sub.cons rfl (Sub.cons rfl (Sub.cons rfl (Sub.cons rfl (Sub.cons rfl (Sub.cons rfl (Sub.cons rfl (Sub.cons rfl (Sub.cons rfl (Sub.cons rfl (Sub.nil _)))))))))))))))
  ·
   replace c144:=Bool.eq_false_iff.mpr c144
   have h155:=ite_false c144 h
   refine TT.cond_false (x:=sub [1,1,1,1,1,1,1,1,0,1,0,0,0,1,0] B9) (y:=sub [1,1,1,1,1,1,1,1,0,1,0,0,0,1,1] B9) rfl c144 ?_
   refine TT.exit rfl ?_
   obtain rfl:=Option.some.inj h155
   exact TT.weak (hk y_79_v y_79_c ho_y_79) (Sub.cons rfl (Sub.cons rfl (Sub.cons rfl (Sub.cons rfl (Sub.cons rfl (Sub.cons rfl (Sub.cons rfl (Sub.cons rfl (Sub.cons rfl (Sub.cons rfl (Sub.cons rfl (Sub.cons rfl (Sub.nil _)))))))))))))

def law13_DerMakes.L1 : Nat → (List Int) → Int → Option (List Int)
 | 0,_,_ => none
 | k + 1,y_159,x21_160 => if (decide (x21_160 < (y_159.length : Int))) = true then (req (0 ≤ x21_160) (req (x21_160 < (y_159.length : Int)) (nm (IntKind.u64.wrap ((y_159.getD x21_160.toNat 0) + 1)) fun t230 => law13_DerMakes.L1 k (y_159.set x21_160.toNat t230) (IntKind.i64.wrap (x21_160 + 1))))) else (some y_159)
set_option maxRecDepth 20000 in
theorem law13_DerMakes.L1_ok (a0 : Int) (a1 : List UInt8) (a2_v : Value) (a3_v : Value) (a4_0 : Der) (a4_0_3 : Value) (a4_0_5 : Value) (a4_0_6 : Value) (a4_1 : Der) (a4_1_3 : Value) (a4_1_5 : Value) (a4_1_6 : Value) (a5 : Int) (b1 : Nat) (t50 : Der) (t50_3 : Value) (t50_5 : Value) (t50_6 : Value) (t54 : Der) (t54_3 : Value) (t54_5 : Value) (t54_6 : Value) (b58 : Nat) (b59 : Nat) (t65 : Der) (t65_3 : Value) (t65_5 : Value) (t65_6 : Value) (b69 : Nat) (s72_v : Value) (s72_c : Array Value) (t73 : Der) (t73_3 : Value) (t73_5 : Value) (t73_6 : Value) (b77 : Nat) (z_o46_143_v : Value) (z_o46_143_c : Array Value) {R : Ending → World → Prop} {w0 : World} {M0 M I : Mem} {K : List Item} (hE : Env w0 M0 M I) :
  ∀ (k : Nat) (y_159 : List Int) (x21_160 : Int) (y_159_v : Value) (y_159_c : Array Value) (r0_ : List Int) (ho_y_159 : IntOwn .u64 y_159_v y_159_c y_159) (h : law13_DerMakes.L1 k y_159 x21_160 = some r0_) (hk : ∀ (z_o61_223_v : Value),∀ (z_o61_223_c : Array Value),IntOwn .u64 z_o61_223_v z_o61_223_c r0_ → TT Tryd.prog 9 R 161 w0 I K [(0,.int .i64 a0),(1,str a1),(2,a2_v),(3,a3_v),(5,.int .i64 a5),(10,ptr b1 0),(14,ptr b58 0),(15,ptr b59 0),(17,ptr b69 0),(18,s72_v),(19,ptr b77 0)] [(some b77,.cells ((Der.ce t73 t73_3 t73_5 t73_6)) 27 (0,0)),(Value.ownBlock s72_v,.cells s72_c 27 (0,0)),(some b69,.cells ((Der.ce t65 t65_3 t65_5 t65_6)) 27 (0,0)),(Value.ownBlock z_o61_223_v,.cells z_o61_223_c 50 (0,0)),(some b59,.cells ((Der.ce t54 t54_3 t54_5 t54_6)) 27 (0,0)),(some b58,.cells ((Der.ce t50 t50_3 t50_5 t50_6)) 27 (0,0)),(Value.ownBlock z_o46_143_v,.cells z_o46_143_c 5 (0,0)),(some b1,.cells (#[.int .i64 (Der.kind a4_0),.bool (Der.flag a4_0),.int .i64 (Der.num a4_0),a4_0_3,str (Der.text a4_0),a4_0_5,a4_0_6,.int .i64 (Der.kind a4_1),.bool (Der.flag a4_1),.int .i64 (Der.num a4_1),a4_1_3,str (Der.text a4_1),a4_1_5,a4_1_6]) 56 (0,0))]),
   TT Tryd.prog 9 R 161 w0 I (.code (sub [1,1,1,1,1,1,1,1,1,0,1,0,0] B9) :: .inLoop (sub [1,1,1,1,1,1,1,1,1,0,1,0,0] B9) :: .inBlock 2 :: K) [(0,.int .i64 a0),(1,str a1),(2,a2_v),(3,a3_v),(5,.int .i64 a5),(10,ptr b1 0),(14,ptr b58 0),(15,ptr b59 0),(16,y_159_v),(17,ptr b69 0),(18,s72_v),(19,ptr b77 0),(21,.int .i64 x21_160)] [(some b77,.cells ((Der.ce t73 t73_3 t73_5 t73_6)) 27 (0,0)),(Value.ownBlock s72_v,.cells s72_c 27 (0,0)),(some b69,.cells ((Der.ce t65 t65_3 t65_5 t65_6)) 27 (0,0)),(Value.ownBlock y_159_v,.cells y_159_c 50 (0,0)),(some b59,.cells ((Der.ce t54 t54_3 t54_5 t54_6)) 27 (0,0)),(some b58,.cells ((Der.ce t50 t50_3 t50_5 t50_6)) 27 (0,0)),(Value.ownBlock z_o46_143_v,.cells z_o46_143_c 5 (0,0)),(some b1,.cells (#[.int .i64 (Der.kind a4_0),.bool (Der.flag a4_0),.int .i64 (Der.num a4_0),a4_0_3,str (Der.text a4_0),a4_0_5,a4_0_6,.int .i64 (Der.kind a4_1),.bool (Der.flag a4_1),.int .i64 (Der.num a4_1),a4_1_3,str (Der.text a4_1),a4_1_5,a4_1_6]) 56 (0,0))]:=by
 intro k
 induction k with
 | zero => intro y_159 x21_160 y_159_v y_159_c r0_ ho_y_159 h; simp [law13_DerMakes.L1] at h
 | succ k ih =>
  intro y_159 x21_160 y_159_v y_159_c r0_ ho_y_159 h hk
  unfold law13_DerMakes.L1 at h
  refine TT.seq (x:=sub [1,1,1,1,1,1,1,1,1,0,1,0,0,0] B9) (y:=sub [1,1,1,1,1,1,1,1,1,0,1,0,0,1] B9) ?_
  refine TT.seq (x:=sub [1,1,1,1,1,1,1,1,1,0,1,0,0,0,0] B9) (y:=sub [1,1,1,1,1,1,1,1,1,0,1,0,0,0,1] B9) ?_
  refine TT.rg [0,1,2,3] [kp,kp,kp,kp] rfl rfl ?_
  refine DL.mv 79 (.int .i64 x21_160) rfl rfl rfl ?_
  refine DL.mv 80 (y_159_v) rfl rfl rfl ?_
  refine DL.pu 81 (.int .i64 (y_159.length : Int)) rfl (p_slLen ty_u24 (OwnV.sl ho_y_159) rfl rfl) ?_
  refine DL.pu 82 (.bool (decide (x21_160 < (y_159.length : Int)))) rfl (p_lss rfl rfl rfl) ?_
  refine DL.nil ?_
  by_cases c224 : (decide (x21_160 < (y_159.length : Int))) = true
  ·
   have h225:=ite_true c224 h
   refine TT.cond_true (x:=sub [1,1,1,1,1,1,1,1,1,0,1,0,0,0,1,0] B9) (y:=sub [1,1,1,1,1,1,1,1,1,0,1,0,0,0,1,1] B9) rfl c224 ?_
   refine TT.skip ?_
   refine TT.seq (x:=sub [1,1,1,1,1,1,1,1,1,0,1,0,0,1,0] B9) (y:=sub [1,1,1,1,1,1,1,1,1,0,1,0,0,1,1] B9) ?_
   refine TT.block (c:=sub [1,1,1,1,1,1,1,1,1,0,1,0,0,1,0,0] B9) ?_
   refine TT.rg [0,1,2,3,4,5,6,7,8] [kp,kp,kp,kp,kp,kq,kp,kp,(.store,none)] rfl rfl ?_
   refine DL.mv 85 (y_159_v) rfl rfl rfl ?_
   refine DL.mv 86 (.int .i64 x21_160) rfl rfl rfl ?_
   refine DL.mv 87 (y_159_v) rfl rfl rfl ?_
   refine DL.mv 88 (.int .i64 x21_160) rfl rfl rfl ?_
   obtain ⟨g226,h227⟩:=req_some h225
   obtain ⟨g228,h229⟩:=req_some h227
   refine DL.pu 89 (elp y_159_v x21_160.toNat) rfl (p_slIx1 ty_u24 ty_s50 (OwnV.some ho_y_159 g226 g228) g226 g228 rfl rfl rfl) ?_
   refine DL.qu 90 (.int .u64 (y_159.getD x21_160.toNat 0)) rfl (f_loadEl (i:=3) rfl ho_y_159 (encl_get .u64 (lt_len g226 g228)) ty_a50 rfl rfl) ?_
   obtain ⟨t230,e231,h232⟩:=nm_some h229
   refine DL.pu 91 (.int .u64 t230) rfl (by rw [e231]; exact p_add rfl rfl rfl) ?_
   refine DL.pu 92 (elp y_159_v x21_160.toNat) rfl (p_slIx1 ty_u24 ty_s50 (OwnV.some ho_y_159 g226 g228) g226 g228 rfl rfl rfl) ?_
   obtain ⟨c233,c233_e⟩ : ∃ c,c = y_159_c.setIfInBounds x21_160.toNat (.int .u64 t230):=⟨_,rfl⟩
   have ho_234 : IntOwn .u64 y_159_v c233 (y_159.set x21_160.toNat t230):=by rw [c233_e]; exact IntOwn.set ho_y_159 (lt_len g226 g228) t230
   refine DL.put (H':=[(some b77,.cells ((Der.ce t73 t73_3 t73_5 t73_6)) 27 (0,0)),(Value.ownBlock s72_v,.cells s72_c 27 (0,0)),(some b69,.cells ((Der.ce t65 t65_3 t65_5 t65_6)) 27 (0,0)),(Value.ownBlock y_159_v,.cells c233 50 (0,0)),(some b59,.cells ((Der.ce t54 t54_3 t54_5 t54_6)) 27 (0,0)),(some b58,.cells ((Der.ce t50 t50_3 t50_5 t50_6)) 27 (0,0)),(Value.ownBlock z_o46_143_v,.cells z_o46_143_c 5 (0,0)),(some b1,.cells (#[.int .i64 (Der.kind a4_0),.bool (Der.flag a4_0),.int .i64 (Der.num a4_0),a4_0_3,str (Der.text a4_0),a4_0_5,a4_0_6,.int .i64 (Der.kind a4_1),.bool (Der.flag a4_1),.int .i64 (Der.num a4_1),a4_1_3,str (Der.text a4_1),a4_1_5,a4_1_6]) 56 (0,0))]) (i:=8) rfl (Wn.none rfl) rfl rfl (by rw [c233_e]; exact f_storeEl (i:=3) ty_s50 rfl ho_y_159 (lt_len1 g226 g228) rfl trivial rfl rfl rfl) (keep_none rfl) ?_
   refine DL.nil ?_
   refine TT.inBlock ?_
   refine TT.rg [0,1,2] [kp,kp,kp] rfl rfl ?_
   refine DL.mv 83 (.int .i64 x21_160) rfl rfl rfl ?_
   refine DL.pu 84 (.int .i64 (IntKind.i64.wrap (x21_160 + 1))) rfl (p_add rfl rfl rfl) ?_
   refine DL.pu 21 (.int .i64 (IntKind.i64.wrap (x21_160 + 1))) rfl (p_assign rfl rfl) ?_
   refine DL.nil ?_
   refine TT.inLoop ?_
   exact TT.weak (ih (y_159.set x21_160.toNat t230) (IntKind.i64.wrap (x21_160 + 1)) y_159_v c233 r0_ ho_234 h232 hk) (Sub.cons rfl (Sub.cons rfl (Sub.cons rfl (Sub.cons rfl (Sub.cons rfl (Sub.cons rfl (Sub.cons rfl (Sub.cons rfl (Sub.cons rfl (Sub.cons rfl (Sub.cons rfl (Sub.cons rfl (Sub.cons rfl (Sub.nil _))))))))))))))
  ·
   replace c224:=Bool.eq_false_iff.mpr c224
   have h235:=ite_false c224 h
   refine TT.cond_false (x:=sub [1,1,1,1,1,1,1,1,1,0,1,0,0,0,1,0] B9) (y:=sub [1,1,1,1,1,1,1,1,1,0,1,0,0,0,1,1] B9) rfl c224 ?_
   refine TT.exit rfl ?_
   obtain rfl:=Option.some.inj h235
   exact TT.weak (hk y_159_v y_159_c ho_y_159) (Sub.cons rfl (Sub.cons rfl (Sub.cons rfl (Sub.cons rfl (Sub.cons rfl (Sub.cons rfl (Sub.cons rfl (Sub.cons rfl (Sub.cons rfl (Sub.cons rfl (Sub.cons rfl (Sub.nil _))))))))))))

def law13_DerMakes.f (a0 : Int) (a1 : List UInt8) (a2 : List Int) (a3 : List Int) (a4_0 : Der) (a4_1 : Der) (a5 : Int) : Option (Bool):=(if (decide (3000 < (a1.length : Int))) = true then (some true) else (some (decide (3000 < (a2.length : Int))))).bind fun q3 => (if q3 = true then (some true) else (some (decide (100 < (a3.length : Int))))).bind fun q11 => (if q11 = true then (some true) else ((law13_few.f a4_0).bind fun t26 => some (!t26))).bind fun q19 => (if q19 = true then (some true) else ((law13_few.f a4_1).bind fun t37 => some (!t37))).bind fun q30 => if q30 = true then ((law13_known.f).bind fun t42 => some t42) else (req (a2.length ≤ 1099511627776) ((der_Octets.f (a2)).bind fun t50 => (der_Bits.f (a2)).bind fun t54 => req (a3.length ≤ 1099511627776) ((der_Oid.f (a3)).bind fun t65 => (der_Seq.f [a4_0,a4_1]).bind fun t73 => (law13_DerMakes.L0 (((a2).length : Int).toNat + 1) (a2) 0).bind fun z_o46_143 => (law13_DerMakes.L1 (((a3).length : Int).toNat + 1) (a3) 0).bind fun z_o61_223 => req ((0 : Int) < ([a4_0,a4_1].length : Int)) ((der_Int.f a0).bind fun t243 => (ref13_Same.f (Der.fuel t243) t243 (Der.mk 2 false a0 ([] : List Int) ([] : List UInt8) ([] : List Int) ([] : List Der))).bind fun t247 => (if t247 = true then ((der_Text.f a1).bind fun t257 => (ref13_Same.f (Der.fuel t257) t257 (Der.mk 6 false 0 ([] : List Int) a1 ([] : List Int) ([] : List Der))).bind fun t261 => some t261) else (some false)).bind fun q251 => (if q251 = true then ((ref13_Same.f (Der.fuel t50) t50 (Der.mk 4 false 0 a2 ([] : List UInt8) ([] : List Int) ([] : List Der))).bind fun t272 => some t272) else (some false)).bind fun q266 => (if q266 = true then ((ref13_Same.f (Der.fuel t54) t54 (Der.mk 3 false 0 a2 ([] : List UInt8) ([] : List Int) ([] : List Der))).bind fun t283 => some t283) else (some false)).bind fun q277 => (if q277 = true then ((ref13_Same.f (Der.fuel t65) t65 (Der.mk 5 false 0 ([] : List Int) ([] : List UInt8) a3 ([] : List Der))).bind fun t294 => some t294) else (some false)).bind fun q288 => (if q288 = true then ((ref13_Same.f (Der.fuel t73) t73 (Der.mk 7 false 0 ([] : List Int) ([] : List UInt8) ([] : List Int) [a4_0,a4_1])).bind fun t308 => some t308) else (some false)).bind fun q299 => (if q299 = true then ((der_Tag.f a5 a4_0).bind fun t319 => (ref13_Same.f (Der.fuel t319) t319 (Der.mk 8 false a5 ([] : List Int) ([] : List UInt8) ([] : List Int) [a4_0])).bind fun t326 => some t326) else (some false)).bind fun q313 => (if q313 = true then ((der_Set.f a4_1).bind fun t337 => (ref13_Same.f (Der.fuel t337) t337 (Der.mk 9 false 0 ([] : List Int) ([] : List UInt8) ([] : List Int) [a4_1])).bind fun t344 => some t344) else (some false)).bind fun q331 => (if q331 = true then ((law13_known.f).bind fun t355 => some t355) else (some false)).bind fun q349 => some q349))))
set_option maxRecDepth 20000 in
theorem law13_DerMakes.ok {a0 : Int} {a1 : List UInt8} {a2 : List Int} {a3 : List Int} {a4_0 : Der} {a4_1 : Der} {a5 : Int} {a2_v : Value} {a3_v : Value} {a4_0_3 : Value} {a4_0_5 : Value} {a4_0_6 : Value} {a4_1_3 : Value} {a4_1_5 : Value} {a4_1_6 : Value} {r : Bool} (h : law13_DerMakes.f a0 a1 a2 a3 a4_0 a4_1 a5 = some r) {M : Mem} (w : World) (hM : Ext M (heapOf w)) (hG : Glob M) (hr_a2 : IntRow M .u8 a2_v a2) (hr_a3 : IntRow M .u64 a3_v a3) (hr_a4_0_3 : IntRow M .u8 a4_0_3 (Der.bytes a4_0)) (hr_a4_0_5 : IntRow M .u64 a4_0_5 (Der.arcs a4_0)) (hr_a4_0_6 : RowS ShDer M a4_0_6 (Tree.kids a4_0)) (hr_a4_1_3 : IntRow M .u8 a4_1_3 (Der.bytes a4_1)) (hr_a4_1_5 : IntRow M .u64 a4_1_5 (Der.arcs a4_1)) (hr_a4_1_6 : RowS ShDer M a4_1_6 (Tree.kids a4_1)) : Calls Tryd.prog 9 #[.int .i64 a0,str a1,a2_v,a3_v,.agg #[.int .i64 (Der.kind a4_0),.bool (Der.flag a4_0),.int .i64 (Der.num a4_0),a4_0_3,str (Der.text a4_0),a4_0_5,a4_0_6,.int .i64 (Der.kind a4_1),.bool (Der.flag a4_1),.int .i64 (Der.num a4_1),a4_1_3,str (Der.text a4_1),a4_1_5,a4_1_6],.int .i64 a5] w (Post (fun u => u = .bool r) w):=by
 unfold law13_DerMakes.f at h
 have hE:=Env.start hM
 refine calls_of_TT (N:=161) (S:=[(0,.int .i64 a0),(1,str a1),(2,a2_v),(3,a3_v),(4,.agg #[.int .i64 (Der.kind a4_0),.bool (Der.flag a4_0),.int .i64 (Der.num a4_0),a4_0_3,str (Der.text a4_0),a4_0_5,a4_0_6,.int .i64 (Der.kind a4_1),.bool (Der.flag a4_1),.int .i64 (Der.num a4_1),a4_1_3,str (Der.text a4_1),a4_1_5,a4_1_6]),(5,.int .i64 a5)]) (c:=B9) Tryd.func9 rfl rfl rfl (by simp) ?_
 show TT _ _ _ _ _ _ [.code (sub [] B9)] _ _
 refine TT.seq (x:=sub [0] B9) (y:=sub [1] B9) ?_
 refine TT.rg [0,1] [(.alloc,none),kp] rfl rfl ?_
 refine DL.new (ob:=.cells (#[.int .i64 (Der.kind a4_0),.bool (Der.flag a4_0),.int .i64 (Der.num a4_0),a4_0_3,str (Der.text a4_0),a4_0_5,a4_0_6,.int .i64 (Der.kind a4_1),.bool (Der.flag a4_1),.int .i64 (Der.num a4_1),a4_1_3,str (Der.text a4_1),a4_1_5,a4_1_6]) 56) (mk:=fun b => ptr b 0) (i:=0) rfl (Wn.none rfl) rfl rfl rfl (f_box (v:=.agg #[.int .i64 (Der.kind a4_0),.bool (Der.flag a4_0),.int .i64 (Der.num a4_0),a4_0_3,str (Der.text a4_0),a4_0_5,a4_0_6,.int .i64 (Der.kind a4_1),.bool (Der.flag a4_1),.int .i64 (Der.num a4_1),a4_1_3,str (Der.text a4_1),a4_1_5,a4_1_6]) rfl rfl) ?_
 intro b1 hb1
 refine DL.pu 12 (.bool false) rfl (p_assign rfl rfl) ?_
 refine DL.nil ?_
 refine TT.seq (x:=sub [1,0] B9) (y:=sub [1,1] B9) ?_
 refine TT.seq (x:=sub [1,0,0] B9) (y:=sub [1,0,1] B9) ?_
 refine TT.rg [0,1,2,3,4,5,6,7,8,9,10,11,12,13,14,15,16,17,18,19,20,21,22,23,24] [kp,kp,kp,kp,kp,kp,kp,kp,kp,kp,kp,kp,kp,kp,kp,kq,kq,kp,kp,kp,kp,kq,kq,kp,kp] rfl rfl ?_
 refine DL.mv 22 (str a1) rfl rfl rfl ?_
 refine DL.pu 23 (.int .i64 (a1.length : Int)) rfl (p_strLen ty_u9 rfl rfl) ?_
 refine DL.pu 24 (.bool (decide (3000 < (a1.length : Int)))) rfl (p_gtr rfl rfl rfl) ?_
 refine DL.mv 25 (.bool (decide (3000 < (a1.length : Int)))) rfl rfl rfl ?_
 obtain ⟨q3,h4,h5⟩:=bind_some h
 refine DL.cut [(0,.int .i64 a0),(1,str a1),(2,a2_v),(3,a3_v),(5,.int .i64 a5),(10,ptr b1 0),(29,.bool q3)] [8,9,10,11,12,13,14,15,16,17,18,19,20,21,22,23,24] ?_ (fun J6 => ?_)
 ·
  refine DL.mv 30 (.bool q3) rfl rfl rfl ?_
  obtain ⟨q11,h12,h13⟩:=bind_some h5
  refine DL.cut [(0,.int .i64 a0),(1,str a1),(2,a2_v),(3,a3_v),(5,.int .i64 a5),(10,ptr b1 0),(34,.bool q11)] [13,14,15,16,17,18,19,20,21,22,23,24] ?_ (fun J14 => ?_)
  ·
   refine DL.mv 35 (.bool q11) rfl rfl rfl ?_
   obtain ⟨q19,h20,h21⟩:=bind_some h13
   refine DL.cut [(0,.int .i64 a0),(1,str a1),(2,a2_v),(3,a3_v),(5,.int .i64 a5),(10,ptr b1 0),(40,.bool q19)] [19,20,21,22,23,24] ?_ (fun J22 => ?_)
   ·
    refine DL.mv 41 (.bool q19) rfl rfl rfl ?_
    obtain ⟨q30,h31,h32⟩:=bind_some h21
    refine DL.cut [(0,.int .i64 a0),(1,str a1),(2,a2_v),(3,a3_v),(5,.int .i64 a5),(10,ptr b1 0),(46,.bool q30)] [] ?_ (fun J33 => ?_)
    ·
     refine DL.nil ?_
     by_cases c40 : q30 = true
     ·
      have h41:=ite_true c40 h32
      refine TT.cond_true (x:=sub [1,0,1,0] B9) (y:=sub [1,0,1,1] B9) rfl c40 ?_
      refine TT.seq (x:=sub [1,0,1,0,0] B9) (y:=sub [1,0,1,0,1] B9) ?_
      refine TT.rg [0,1] [kq,kp] rfl rfl ?_
      obtain ⟨t42,h43,h44⟩:=bind_some h41
      refine DL.qu 47 (.bool t42) rfl (f_callR rfl rfl (args_val (vs:=[]) rfl) (fun w => enter11 _ w) (fun w hc => law13_known.val h43 (M:=M) w (hE.ext hc) hG)) ?_
      refine DL.pu 12 (.bool t42) rfl (p_assign rfl rfl) ?_
      refine DL.nil ?_
      obtain rfl:=Option.some.inj h44
      exact retnE (rs:=[.tmp 12]) (vs:=[.bool t42]) hE.base Tryd.func9 rfl rfl rfl (res_cons (ResV.tmp rfl) res_nil) rfl
     ·
      replace c40:=Bool.eq_false_iff.mpr c40
      have h45:=ite_false c40 h32
      refine TT.cond_false (x:=sub [1,0,1,0] B9) (y:=sub [1,0,1,1] B9) rfl c40 ?_
      refine TT.skip ?_
      refine TT.seq (x:=sub [1,1,0] B9) (y:=sub [1,1,1] B9) ?_
      refine TT.rg [0,1,2] [kp,kx,kp] rfl rfl ?_
      refine DL.mv 48 (a2_v) rfl rfl rfl ?_
      obtain ⟨g47,h48⟩:=req_some h45
      refine DL.appendI0 (fun s49_v s49_c => [(Value.ownBlock s49_v,.cells s49_c 5 (0,0)),(some b1,.cells (#[.int .i64 (Der.kind a4_0),.bool (Der.flag a4_0),.int .i64 (Der.num a4_0),a4_0_3,str (Der.text a4_0),a4_0_5,a4_0_6,.int .i64 (Der.kind a4_1),.bool (Der.flag a4_1),.int .i64 (Der.num a4_1),a4_1_3,str (Der.text a4_1),a4_1_5,a4_1_6]) 56 (0,0))]) elem23  g47 (by decide) (fun w hc => RowV.src (RowV.mono hr_a2 (by have hc:=hc.tail; exact (hE.ext hc))) (encl_one _ _)) (i:=1) rfl (Wn.none rfl) rfl rfl rfl rfl rfl rfl (fun _ _ => rfl) ?_
      intro s49_v s49_c ho_s49
      show DL _ _ _ _ _ _ _ _ _ _ _ _ [(Value.ownBlock s49_v,.cells s49_c 5 (0,0)),(some b1,.cells (#[.int .i64 (Der.kind a4_0),.bool (Der.flag a4_0),.int .i64 (Der.num a4_0),a4_0_3,str (Der.text a4_0),a4_0_5,a4_0_6,.int .i64 (Der.kind a4_1),.bool (Der.flag a4_1),.int .i64 (Der.num a4_1),a4_1_3,str (Der.text a4_1),a4_1_5,a4_1_6]) 56 (0,0))]
      refine DL.pu 13 (s49_v) rfl (p_assign rfl rfl) ?_
      refine DL.nil ?_
      refine TT.seq (x:=sub [1,1,1,0] B9) (y:=sub [1,1,1,1] B9) ?_
      refine TT.rg [0,1,2,3,4,5,6,7] [kp,(.free,none),kp,(.free,none),(.alloc,none),(.alloc,none),(.store,none),(.store,none)] rfl rfl ?_
      refine DL.mv 50 (s49_v) rfl rfl rfl ?_
      obtain ⟨t50,h51,h52⟩:=bind_some h48
      refine DL.callFf (G:=Value × Value × Value) (u:=fun g => .agg (Der.ce t50 (g.1) (g.2.1) (g.2.2))) (Q:=fun g M_ => (IntRow M_ .u8 (g.1) (Der.bytes t50)) ∧ (IntRow M_ .u64 (g.2.1) (Der.arcs t50)) ∧ (RowS ShDer M_ (g.2.2) (Tree.kids t50))) (A:=[(Value.ownBlock s49_v,.cells s49_c 5 (0,0)),(some b1,.cells (#[.int .i64 (Der.kind a4_0),.bool (Der.flag a4_0),.int .i64 (Der.num a4_0),a4_0_3,str (Der.text a4_0),a4_0_5,a4_0_6,.int .i64 (Der.kind a4_1),.bool (Der.flag a4_1),.int .i64 (Der.num a4_1),a4_1_3,str (Der.text a4_1),a4_1_5,a4_1_6]) 56 (0,0))]) (J:=[]) (fun J53 => ((Value.ownBlock s49_v,.cells s49_c 5 (0,0)) :: (some b1,.cells (#[.int .i64 (Der.kind a4_0),.bool (Der.flag a4_0),.int .i64 (Der.num a4_0),a4_0_3,str (Der.text a4_0),a4_0_5,a4_0_6,.int .i64 (Der.kind a4_1),.bool (Der.flag a4_1),.int .i64 (Der.num a4_1),a4_1_3,str (Der.text a4_1),a4_1_5,a4_1_6]) 56 (0,0)) :: J53)) (Nat.le_refl _) hE.nil (List.append_nil _).symm (fun _ => rfl) (by simp) (i:=1) rfl (Wn.none rfl) rfl rfl rfl rfl rfl rfl (args_val (vs:=[s49_v]) rfl) (fun w => enter23 _ w) (fun w hc hI => der_Octets.okX h51 (M:=M) w hI (IntOwn.row ho_s49 hc (i:=0) rfl)) ?_
      rintro ⟨t50_3,t50_5,t50_6⟩ M53 J53 hE53 hx53 ⟨hr_t50_3,hr_t50_5,hr_t50_6⟩
      show DL _ _ _ _ _ _ _ _ _ _ _ _ ((Value.ownBlock s49_v,.cells s49_c 5 (0,0)) :: (some b1,.cells (#[.int .i64 (Der.kind a4_0),.bool (Der.flag a4_0),.int .i64 (Der.num a4_0),a4_0_3,str (Der.text a4_0),a4_0_5,a4_0_6,.int .i64 (Der.kind a4_1),.bool (Der.flag a4_1),.int .i64 (Der.num a4_1),a4_1_3,str (Der.text a4_1),a4_1_5,a4_1_6]) 56 (0,0)) :: J53)
      refine DL.mv 52 (s49_v) rfl rfl rfl ?_
      obtain ⟨t54,h55,h56⟩:=bind_some h52
      refine DL.callFf (G:=Value × Value × Value) (u:=fun g => .agg (Der.ce t54 (g.1) (g.2.1) (g.2.2))) (Q:=fun g M_ => (IntRow M_ .u8 (g.1) (Der.bytes t54)) ∧ (IntRow M_ .u64 (g.2.1) (Der.arcs t54)) ∧ (RowS ShDer M_ (g.2.2) (Tree.kids t54))) (A:=[(Value.ownBlock s49_v,.cells s49_c 5 (0,0)),(some b1,.cells (#[.int .i64 (Der.kind a4_0),.bool (Der.flag a4_0),.int .i64 (Der.num a4_0),a4_0_3,str (Der.text a4_0),a4_0_5,a4_0_6,.int .i64 (Der.kind a4_1),.bool (Der.flag a4_1),.int .i64 (Der.num a4_1),a4_1_3,str (Der.text a4_1),a4_1_5,a4_1_6]) 56 (0,0))]) (J:=J53) (fun J57 => ((Value.ownBlock s49_v,.cells s49_c 5 (0,0)) :: (some b1,.cells (#[.int .i64 (Der.kind a4_0),.bool (Der.flag a4_0),.int .i64 (Der.num a4_0),a4_0_3,str (Der.text a4_0),a4_0_5,a4_0_6,.int .i64 (Der.kind a4_1),.bool (Der.flag a4_1),.int .i64 (Der.num a4_1),a4_1_3,str (Der.text a4_1),a4_1_5,a4_1_6]) 56 (0,0)) :: J57)) (Nat.le_refl _) hE53 rfl (fun _ => rfl) (by simp) (i:=3) rfl (Wn.none rfl) rfl rfl rfl rfl rfl rfl (args_val (vs:=[s49_v]) rfl) (fun w => enter29 _ w) (fun w hc hI => der_Bits.okX h55 (M:=M53) w hI (IntOwn.row ho_s49 hc (i:=0) rfl)) ?_
      rintro ⟨t54_3,t54_5,t54_6⟩ M57 J57 hE57 hx57 ⟨hr_t54_3,hr_t54_5,hr_t54_6⟩
      show DL _ _ _ _ _ _ _ _ _ _ _ _ ((Value.ownBlock s49_v,.cells s49_c 5 (0,0)) :: (some b1,.cells (#[.int .i64 (Der.kind a4_0),.bool (Der.flag a4_0),.int .i64 (Der.num a4_0),a4_0_3,str (Der.text a4_0),a4_0_5,a4_0_6,.int .i64 (Der.kind a4_1),.bool (Der.flag a4_1),.int .i64 (Der.num a4_1),a4_1_3,str (Der.text a4_1),a4_1_5,a4_1_6]) 56 (0,0)) :: J57)
      refine DL.new (ob:=.cells (#[.int .i64 0,.bool false,.int .i64 0,(.slice none 0 0),str ([] : List UInt8),(.slice none 0 0),(.slice none 0 0)]) 27) (mk:=fun b => ptr b 0) (i:=4) rfl (Wn.none rfl) rfl rfl rfl (f_alloc ty_z27 rfl) ?_
      intro b58 hb58
      refine DL.new (ob:=.cells (#[.int .i64 0,.bool false,.int .i64 0,(.slice none 0 0),str ([] : List UInt8),(.slice none 0 0),(.slice none 0 0)]) 27) (mk:=fun b => ptr b 0) (i:=5) rfl (Wn.none rfl) rfl rfl rfl (f_alloc ty_z27 rfl) ?_
      intro b59 hb59
      refine DL.put (H':=((some b59,.cells (#[.int .i64 0,.bool false,.int .i64 0,(.slice none 0 0),str ([] : List UInt8),(.slice none 0 0),(.slice none 0 0)]) 27 (0,0)) :: (some b58,.cells ((Der.ce t50 t50_3 t50_5 t50_6)) 27 (0,0)) :: (Value.ownBlock s49_v,.cells s49_c 5 (0,0)) :: (some b1,.cells (#[.int .i64 (Der.kind a4_0),.bool (Der.flag a4_0),.int .i64 (Der.num a4_0),a4_0_3,str (Der.text a4_0),a4_0_5,a4_0_6,.int .i64 (Der.kind a4_1),.bool (Der.flag a4_1),.int .i64 (Der.num a4_1),a4_1_3,str (Der.text a4_1),a4_1_5,a4_1_6]) 56 (0,0)) :: J57)) (i:=6) rfl (Wn.none rfl) rfl rfl (f_storeA (j:=1) ty_s27 rfl rfl rfl (one_cons trivial (one_cons trivial (one_cons trivial (one_cons (sl_one (RowV.sl (IntRow.mono hr_t50_3 hx57))) (one_cons trivial (one_cons (sl_one (RowV.sl (IntRow.mono hr_t50_5 hx57))) (one_cons (sl_one (RowS.sl (RowS.mono hr_t50_6 hx57))) one_nil))))))) rfl rfl rfl) (keep_none rfl) ?_
      refine DL.put (H':=((some b59,.cells ((Der.ce t54 t54_3 t54_5 t54_6)) 27 (0,0)) :: (some b58,.cells ((Der.ce t50 t50_3 t50_5 t50_6)) 27 (0,0)) :: (Value.ownBlock s49_v,.cells s49_c 5 (0,0)) :: (some b1,.cells (#[.int .i64 (Der.kind a4_0),.bool (Der.flag a4_0),.int .i64 (Der.num a4_0),a4_0_3,str (Der.text a4_0),a4_0_5,a4_0_6,.int .i64 (Der.kind a4_1),.bool (Der.flag a4_1),.int .i64 (Der.num a4_1),a4_1_3,str (Der.text a4_1),a4_1_5,a4_1_6]) 56 (0,0)) :: J57)) (i:=7) rfl (Wn.none rfl) rfl rfl (f_storeA (j:=0) ty_s27 rfl rfl rfl (one_cons trivial (one_cons trivial (one_cons trivial (one_cons (sl_one (RowV.sl hr_t54_3)) (one_cons trivial (one_cons (sl_one (RowV.sl hr_t54_5)) (one_cons (sl_one (RowS.sl hr_t54_6)) one_nil))))))) rfl rfl rfl) (keep_none rfl) ?_
      refine DL.nil ?_
      refine TT.settle (A:=[(some b59,.cells ((Der.ce t54 t54_3 t54_5 t54_6)) 27 (0,0)),(some b58,.cells ((Der.ce t50 t50_3 t50_5 t50_6)) 27 (0,0)),(Value.ownBlock s49_v,.cells s49_c 5 (0,0)),(some b1,.cells (#[.int .i64 (Der.kind a4_0),.bool (Der.flag a4_0),.int .i64 (Der.num a4_0),a4_0_3,str (Der.text a4_0),a4_0_5,a4_0_6,.int .i64 (Der.kind a4_1),.bool (Der.flag a4_1),.int .i64 (Der.num a4_1),a4_1_3,str (Der.text a4_1),a4_1_5,a4_1_6]) 56 (0,0))]) (J:=J57) hE57 ?_
      intro I60 hE60 hxI60
      refine TT.seq (x:=sub [1,1,1,1,0] B9) (y:=sub [1,1,1,1,1] B9) ?_
      refine TT.rg [0,1,2] [kp,kx,kp] rfl rfl ?_
      refine DL.mv 54 (a3_v) rfl rfl rfl ?_
      obtain ⟨g62,h63⟩:=req_some h56
      refine DL.appendI0 (fun s64_v s64_c => [(Value.ownBlock s64_v,.cells s64_c 50 (0,0)),(some b59,.cells ((Der.ce t54 t54_3 t54_5 t54_6)) 27 (0,0)),(some b58,.cells ((Der.ce t50 t50_3 t50_5 t50_6)) 27 (0,0)),(Value.ownBlock s49_v,.cells s49_c 5 (0,0)),(some b1,.cells (#[.int .i64 (Der.kind a4_0),.bool (Der.flag a4_0),.int .i64 (Der.num a4_0),a4_0_3,str (Der.text a4_0),a4_0_5,a4_0_6,.int .i64 (Der.kind a4_1),.bool (Der.flag a4_1),.int .i64 (Der.num a4_1),a4_1_3,str (Der.text a4_1),a4_1_5,a4_1_6]) 56 (0,0))]) elem24  g62 (by decide) (fun w hc => RowV.src (RowV.mono (IntRow.mono hr_a3 (hx53.trans hx57)) (by have hc:=hc.tail; exact (hE60.ext hc))) (encl_one _ _)) (i:=1) rfl (Wn.none rfl) rfl rfl rfl rfl rfl rfl (fun _ _ => rfl) ?_
      intro s64_v s64_c ho_s64
      show DL _ _ _ _ _ _ _ _ _ _ _ _ [(Value.ownBlock s64_v,.cells s64_c 50 (0,0)),(some b59,.cells ((Der.ce t54 t54_3 t54_5 t54_6)) 27 (0,0)),(some b58,.cells ((Der.ce t50 t50_3 t50_5 t50_6)) 27 (0,0)),(Value.ownBlock s49_v,.cells s49_c 5 (0,0)),(some b1,.cells (#[.int .i64 (Der.kind a4_0),.bool (Der.flag a4_0),.int .i64 (Der.num a4_0),a4_0_3,str (Der.text a4_0),a4_0_5,a4_0_6,.int .i64 (Der.kind a4_1),.bool (Der.flag a4_1),.int .i64 (Der.num a4_1),a4_1_3,str (Der.text a4_1),a4_1_5,a4_1_6]) 56 (0,0))]
      refine DL.pu 16 (s64_v) rfl (p_assign rfl rfl) ?_
      refine DL.nil ?_
      refine TT.seq (x:=sub [1,1,1,1,1,0] B9) (y:=sub [1,1,1,1,1,1] B9) ?_
      refine TT.rg [0,1,2,3] [kp,(.free,none),(.alloc,none),(.store,none)] rfl rfl ?_
      refine DL.mv 56 (s64_v) rfl rfl rfl ?_
      obtain ⟨t65,h66,h67⟩:=bind_some h63
      refine DL.callFf (G:=Value × Value × Value) (u:=fun g => .agg (Der.ce t65 (g.1) (g.2.1) (g.2.2))) (Q:=fun g M_ => (IntRow M_ .u8 (g.1) (Der.bytes t65)) ∧ (IntRow M_ .u64 (g.2.1) (Der.arcs t65)) ∧ (RowS ShDer M_ (g.2.2) (Tree.kids t65))) (A:=[(Value.ownBlock s64_v,.cells s64_c 50 (0,0)),(some b59,.cells ((Der.ce t54 t54_3 t54_5 t54_6)) 27 (0,0)),(some b58,.cells ((Der.ce t50 t50_3 t50_5 t50_6)) 27 (0,0)),(Value.ownBlock s49_v,.cells s49_c 5 (0,0)),(some b1,.cells (#[.int .i64 (Der.kind a4_0),.bool (Der.flag a4_0),.int .i64 (Der.num a4_0),a4_0_3,str (Der.text a4_0),a4_0_5,a4_0_6,.int .i64 (Der.kind a4_1),.bool (Der.flag a4_1),.int .i64 (Der.num a4_1),a4_1_3,str (Der.text a4_1),a4_1_5,a4_1_6]) 56 (0,0))]) (J:=[]) (fun J68 => ((Value.ownBlock s64_v,.cells s64_c 50 (0,0)) :: (some b59,.cells ((Der.ce t54 t54_3 t54_5 t54_6)) 27 (0,0)) :: (some b58,.cells ((Der.ce t50 t50_3 t50_5 t50_6)) 27 (0,0)) :: (Value.ownBlock s49_v,.cells s49_c 5 (0,0)) :: (some b1,.cells (#[.int .i64 (Der.kind a4_0),.bool (Der.flag a4_0),.int .i64 (Der.num a4_0),a4_0_3,str (Der.text a4_0),a4_0_5,a4_0_6,.int .i64 (Der.kind a4_1),.bool (Der.flag a4_1),.int .i64 (Der.num a4_1),a4_1_3,str (Der.text a4_1),a4_1_5,a4_1_6]) 56 (0,0)) :: J68)) (Nat.le_refl _) hE60.nil (List.append_nil _).symm (fun _ => rfl) (by simp) (i:=1) rfl (Wn.none rfl) rfl rfl rfl rfl rfl rfl (args_val (vs:=[s64_v]) rfl) (fun w => enter24 _ w) (fun w hc hI => der_Oid.okX h66 (M:=M57) w hI (IntOwn.row ho_s64 hc (i:=0) rfl)) ?_
      rintro ⟨t65_3,t65_5,t65_6⟩ M68 J68 hE68 hx68 ⟨hr_t65_3,hr_t65_5,hr_t65_6⟩
      show DL _ _ _ _ _ _ _ _ _ _ _ _ ((Value.ownBlock s64_v,.cells s64_c 50 (0,0)) :: (some b59,.cells ((Der.ce t54 t54_3 t54_5 t54_6)) 27 (0,0)) :: (some b58,.cells ((Der.ce t50 t50_3 t50_5 t50_6)) 27 (0,0)) :: (Value.ownBlock s49_v,.cells s49_c 5 (0,0)) :: (some b1,.cells (#[.int .i64 (Der.kind a4_0),.bool (Der.flag a4_0),.int .i64 (Der.num a4_0),a4_0_3,str (Der.text a4_0),a4_0_5,a4_0_6,.int .i64 (Der.kind a4_1),.bool (Der.flag a4_1),.int .i64 (Der.num a4_1),a4_1_3,str (Der.text a4_1),a4_1_5,a4_1_6]) 56 (0,0)) :: J68)
      refine DL.new (ob:=.cells (#[.int .i64 0,.bool false,.int .i64 0,(.slice none 0 0),str ([] : List UInt8),(.slice none 0 0),(.slice none 0 0)]) 27) (mk:=fun b => ptr b 0) (i:=2) rfl (Wn.none rfl) rfl rfl rfl (f_alloc ty_z27 rfl) ?_
      intro b69 hb69
      refine DL.put (H':=((some b69,.cells ((Der.ce t65 t65_3 t65_5 t65_6)) 27 (0,0)) :: (Value.ownBlock s64_v,.cells s64_c 50 (0,0)) :: (some b59,.cells ((Der.ce t54 t54_3 t54_5 t54_6)) 27 (0,0)) :: (some b58,.cells ((Der.ce t50 t50_3 t50_5 t50_6)) 27 (0,0)) :: (Value.ownBlock s49_v,.cells s49_c 5 (0,0)) :: (some b1,.cells (#[.int .i64 (Der.kind a4_0),.bool (Der.flag a4_0),.int .i64 (Der.num a4_0),a4_0_3,str (Der.text a4_0),a4_0_5,a4_0_6,.int .i64 (Der.kind a4_1),.bool (Der.flag a4_1),.int .i64 (Der.num a4_1),a4_1_3,str (Der.text a4_1),a4_1_5,a4_1_6]) 56 (0,0)) :: J68)) (i:=3) rfl (Wn.none rfl) rfl rfl (f_storeA (j:=0) ty_s27 rfl rfl rfl (one_cons trivial (one_cons trivial (one_cons trivial (one_cons (sl_one (RowV.sl hr_t65_3)) (one_cons trivial (one_cons (sl_one (RowV.sl hr_t65_5)) (one_cons (sl_one (RowS.sl hr_t65_6)) one_nil))))))) rfl rfl rfl) (keep_none rfl) ?_
      refine DL.nil ?_
      refine TT.settle (A:=[(some b69,.cells ((Der.ce t65 t65_3 t65_5 t65_6)) 27 (0,0)),(Value.ownBlock s64_v,.cells s64_c 50 (0,0)),(some b59,.cells ((Der.ce t54 t54_3 t54_5 t54_6)) 27 (0,0)),(some b58,.cells ((Der.ce t50 t50_3 t50_5 t50_6)) 27 (0,0)),(Value.ownBlock s49_v,.cells s49_c 5 (0,0)),(some b1,.cells (#[.int .i64 (Der.kind a4_0),.bool (Der.flag a4_0),.int .i64 (Der.num a4_0),a4_0_3,str (Der.text a4_0),a4_0_5,a4_0_6,.int .i64 (Der.kind a4_1),.bool (Der.flag a4_1),.int .i64 (Der.num a4_1),a4_1_3,str (Der.text a4_1),a4_1_5,a4_1_6]) 56 (0,0))]) (J:=J68) hE68 ?_
      intro I70 hE70 hxI70
      refine TT.seq (x:=sub [1,1,1,1,1,1,0] B9) (y:=sub [1,1,1,1,1,1,1] B9) ?_
      refine TT.rg [0,1,2,3,4,5] [kp,kq,kp,kq,(.alloc,none),kp] rfl rfl ?_
      refine DL.pu 58 (ptr b1 0) rfl (p_indexAddr (i:=0) ty_u56 ty_s27 (by decide) (by decide) rfl rfl rfl) ?_
      refine DL.qu 59 (.agg (Der.ce a4_0 a4_0_3 a4_0_5 a4_0_6)) rfl (f_loadSubA (j:=5) (vs:=[.int .i64 (Der.kind a4_0),.bool (Der.flag a4_0),.int .i64 (Der.num a4_0),a4_0_3,str (Der.text a4_0),a4_0_5,a4_0_6]) (off:=0) ty_a27 ty_s27 rfl rfl rfl rfl rfl) ?_
      refine DL.pu 60 (ptr b1 7) rfl (p_indexAddr (i:=1) ty_u56 ty_s27 (by decide) (by decide) rfl rfl rfl) ?_
      refine DL.qu 61 (.agg (Der.ce a4_1 a4_1_3 a4_1_5 a4_1_6)) rfl (f_loadSubA (j:=5) (vs:=[.int .i64 (Der.kind a4_1),.bool (Der.flag a4_1),.int .i64 (Der.num a4_1),a4_1_3,str (Der.text a4_1),a4_1_5,a4_1_6]) (off:=7) ty_a27 ty_s27 rfl rfl rfl rfl rfl) ?_
      refine DL.newS (M:=M68) (s:=ShDer) (zs:=[a4_0,a4_1]) (cells:=[.int .i64 (Der.kind a4_0),.bool (Der.flag a4_0),.int .i64 (Der.num a4_0),a4_0_3,str (Der.text a4_0),a4_0_5,a4_0_6,.int .i64 (Der.kind a4_1),.bool (Der.flag a4_1),.int .i64 (Der.num a4_1),a4_1_3,str (Der.text a4_1),a4_1_5,a4_1_6]) (n:=2) rfl (by decide) rfl (fun i x hx => by match i,hx with | 0,hx => cases hx; exact (Der.cl (t:=a4_0) (IntRow.mono hr_a4_0_3 ((hx53.trans hx57).trans hx68)) (IntRow.mono hr_a4_0_5 ((hx53.trans hx57).trans hx68)) (RowS.mono hr_a4_0_6 ((hx53.trans hx57).trans hx68))) | 1,hx => cases hx; exact (Der.cl (t:=a4_1) (IntRow.mono hr_a4_1_3 ((hx53.trans hx57).trans hx68)) (IntRow.mono hr_a4_1_5 ((hx53.trans hx57).trans hx68)) (RowS.mono hr_a4_1_6 ((hx53.trans hx57).trans hx68))) | k + 2,hx => simp at hx) (i:=4) rfl (Wn.none rfl) rfl rfl rfl (f_buildS (n:=2) (vs:=[(0,.agg (Der.ce a4_0 a4_0_3 a4_0_5 a4_0_6)),(1,.agg (Der.ce a4_1 a4_1_3 a4_1_5 a4_1_6))]) elem25 rfl rfl (by kernel_rfl) rfl (args_val2 rfl)) ?_
      intro s72_v s72_c ho_s72
      refine DL.pu 18 (s72_v) rfl (p_assign rfl rfl) ?_
      refine DL.nil ?_
      refine TT.seq (x:=sub [1,1,1,1,1,1,1,0] B9) (y:=sub [1,1,1,1,1,1,1,1] B9) ?_
      refine TT.rg [0,1,2,3] [kp,(.free,none),(.alloc,none),(.store,none)] rfl rfl ?_
      refine DL.mv 63 (s72_v) rfl rfl rfl ?_
      obtain ⟨t73,h74,h75⟩:=bind_some h67
      refine DL.callFf (G:=Value × Value × Value) (u:=fun g => .agg (Der.ce t73 (g.1) (g.2.1) (g.2.2))) (Q:=fun g M_ => (IntRow M_ .u8 (g.1) (Der.bytes t73)) ∧ (IntRow M_ .u64 (g.2.1) (Der.arcs t73)) ∧ (RowS ShDer M_ (g.2.2) (Tree.kids t73))) (A:=[(Value.ownBlock s72_v,.cells s72_c 27 (0,0)),(some b69,.cells ((Der.ce t65 t65_3 t65_5 t65_6)) 27 (0,0)),(Value.ownBlock s64_v,.cells s64_c 50 (0,0)),(some b59,.cells ((Der.ce t54 t54_3 t54_5 t54_6)) 27 (0,0)),(some b58,.cells ((Der.ce t50 t50_3 t50_5 t50_6)) 27 (0,0)),(Value.ownBlock s49_v,.cells s49_c 5 (0,0)),(some b1,.cells (#[.int .i64 (Der.kind a4_0),.bool (Der.flag a4_0),.int .i64 (Der.num a4_0),a4_0_3,str (Der.text a4_0),a4_0_5,a4_0_6,.int .i64 (Der.kind a4_1),.bool (Der.flag a4_1),.int .i64 (Der.num a4_1),a4_1_3,str (Der.text a4_1),a4_1_5,a4_1_6]) 56 (0,0))]) (J:=[]) (fun J76 => ((Value.ownBlock s72_v,.cells s72_c 27 (0,0)) :: (some b69,.cells ((Der.ce t65 t65_3 t65_5 t65_6)) 27 (0,0)) :: (Value.ownBlock s64_v,.cells s64_c 50 (0,0)) :: (some b59,.cells ((Der.ce t54 t54_3 t54_5 t54_6)) 27 (0,0)) :: (some b58,.cells ((Der.ce t50 t50_3 t50_5 t50_6)) 27 (0,0)) :: (Value.ownBlock s49_v,.cells s49_c 5 (0,0)) :: (some b1,.cells (#[.int .i64 (Der.kind a4_0),.bool (Der.flag a4_0),.int .i64 (Der.num a4_0),a4_0_3,str (Der.text a4_0),a4_0_5,a4_0_6,.int .i64 (Der.kind a4_1),.bool (Der.flag a4_1),.int .i64 (Der.num a4_1),a4_1_3,str (Der.text a4_1),a4_1_5,a4_1_6]) 56 (0,0)) :: J76)) (Nat.le_refl _) hE70.nil (List.append_nil _).symm (fun _ => rfl) (by simp) (i:=1) rfl (Wn.none rfl) rfl rfl rfl rfl rfl rfl (args_val (vs:=[s72_v]) rfl) (fun w => enter22 _ w) (fun w hc hI => der_Seq.okX h74 (M:=M68) w hI (OwnS.rowX ho_s72 hc (i:=0) rfl)) ?_
      rintro ⟨t73_3,t73_5,t73_6⟩ M76 J76 hE76 hx76 ⟨hr_t73_3,hr_t73_5,hr_t73_6⟩
      show DL _ _ _ _ _ _ _ _ _ _ _ _ ((Value.ownBlock s72_v,.cells s72_c 27 (0,0)) :: (some b69,.cells ((Der.ce t65 t65_3 t65_5 t65_6)) 27 (0,0)) :: (Value.ownBlock s64_v,.cells s64_c 50 (0,0)) :: (some b59,.cells ((Der.ce t54 t54_3 t54_5 t54_6)) 27 (0,0)) :: (some b58,.cells ((Der.ce t50 t50_3 t50_5 t50_6)) 27 (0,0)) :: (Value.ownBlock s49_v,.cells s49_c 5 (0,0)) :: (some b1,.cells (#[.int .i64 (Der.kind a4_0),.bool (Der.flag a4_0),.int .i64 (Der.num a4_0),a4_0_3,str (Der.text a4_0),a4_0_5,a4_0_6,.int .i64 (Der.kind a4_1),.bool (Der.flag a4_1),.int .i64 (Der.num a4_1),a4_1_3,str (Der.text a4_1),a4_1_5,a4_1_6]) 56 (0,0)) :: J76)
      refine DL.new (ob:=.cells (#[.int .i64 0,.bool false,.int .i64 0,(.slice none 0 0),str ([] : List UInt8),(.slice none 0 0),(.slice none 0 0)]) 27) (mk:=fun b => ptr b 0) (i:=2) rfl (Wn.none rfl) rfl rfl rfl (f_alloc ty_z27 rfl) ?_
      intro b77 hb77
      refine DL.put (H':=((some b77,.cells ((Der.ce t73 t73_3 t73_5 t73_6)) 27 (0,0)) :: (Value.ownBlock s72_v,.cells s72_c 27 (0,0)) :: (some b69,.cells ((Der.ce t65 t65_3 t65_5 t65_6)) 27 (0,0)) :: (Value.ownBlock s64_v,.cells s64_c 50 (0,0)) :: (some b59,.cells ((Der.ce t54 t54_3 t54_5 t54_6)) 27 (0,0)) :: (some b58,.cells ((Der.ce t50 t50_3 t50_5 t50_6)) 27 (0,0)) :: (Value.ownBlock s49_v,.cells s49_c 5 (0,0)) :: (some b1,.cells (#[.int .i64 (Der.kind a4_0),.bool (Der.flag a4_0),.int .i64 (Der.num a4_0),a4_0_3,str (Der.text a4_0),a4_0_5,a4_0_6,.int .i64 (Der.kind a4_1),.bool (Der.flag a4_1),.int .i64 (Der.num a4_1),a4_1_3,str (Der.text a4_1),a4_1_5,a4_1_6]) 56 (0,0)) :: J76)) (i:=3) rfl (Wn.none rfl) rfl rfl (f_storeA (j:=0) ty_s27 rfl rfl rfl (one_cons trivial (one_cons trivial (one_cons trivial (one_cons (sl_one (RowV.sl hr_t73_3)) (one_cons trivial (one_cons (sl_one (RowV.sl hr_t73_5)) (one_cons (sl_one (RowS.sl hr_t73_6)) one_nil))))))) rfl rfl rfl) (keep_none rfl) ?_
      refine DL.nil ?_
      refine TT.settle (A:=[(some b77,.cells ((Der.ce t73 t73_3 t73_5 t73_6)) 27 (0,0)),(Value.ownBlock s72_v,.cells s72_c 27 (0,0)),(some b69,.cells ((Der.ce t65 t65_3 t65_5 t65_6)) 27 (0,0)),(Value.ownBlock s64_v,.cells s64_c 50 (0,0)),(some b59,.cells ((Der.ce t54 t54_3 t54_5 t54_6)) 27 (0,0)),(some b58,.cells ((Der.ce t50 t50_3 t50_5 t50_6)) 27 (0,0)),(Value.ownBlock s49_v,.cells s49_c 5 (0,0)),(some b1,.cells (#[.int .i64 (Der.kind a4_0),.bool (Der.flag a4_0),.int .i64 (Der.num a4_0),a4_0_3,str (Der.text a4_0),a4_0_5,a4_0_6,.int .i64 (Der.kind a4_1),.bool (Der.flag a4_1),.int .i64 (Der.num a4_1),a4_1_3,str (Der.text a4_1),a4_1_5,a4_1_6]) 56 (0,0))]) (J:=J76) hE76 ?_
      intro I78 hE78 hxI78
      refine TT.seq (x:=sub [1,1,1,1,1,1,1,1,0] B9) (y:=sub [1,1,1,1,1,1,1,1,1] B9) ?_
      refine TT.seq (x:=sub [1,1,1,1,1,1,1,1,0,0] B9) (y:=sub [1,1,1,1,1,1,1,1,0,1] B9) ?_
      refine TT.rg [0] [kp] rfl rfl ?_
      refine DL.pu 20 (.int .i64 0) rfl (p_assign rfl rfl) ?_
      refine DL.nil ?_
      refine TT.block (c:=sub [1,1,1,1,1,1,1,1,0,1,0] B9) ?_
      refine TT.loop (c:=sub [1,1,1,1,1,1,1,1,0,1,0,0] B9) ?_
      obtain ⟨z_o46_143,h156,h157⟩:=bind_some h75
      refine TT.weak (law13_DerMakes.L0_ok a0 a1 a2_v a3_v a4_0 a4_0_3 a4_0_5 a4_0_6 a4_1 a4_1_3 a4_1_5 a4_1_6 a5 b1 t50 t50_3 t50_5 t50_6 t54 t54_3 t54_5 t54_6 b58 b59 s64_v s64_c t65 t65_3 t65_5 t65_6 b69 s72_v s72_c t73 t73_3 t73_5 t73_6 b77 hE78 (((a2).length : Int).toNat + 1) (a2) 0 s49_v s49_c z_o46_143 ho_s49 h156 (fun z_o46_143_v z_o46_143_c ho_z_o46_143 => ?_)) (Sub.cons rfl (Sub.cons rfl (Sub.cons rfl (Sub.cons rfl (Sub.cons rfl (Sub.cons rfl (Sub.cons rfl (Sub.cons rfl (Sub.cons rfl (Sub.cons rfl (Sub.cons rfl (Sub.cons rfl (Sub.cons rfl (Sub.cons rfl (Sub.nil _)))))))))))))))
      refine TT.seq (x:=sub [1,1,1,1,1,1,1,1,1,0] B9) (y:=sub [1,1,1,1,1,1,1,1,1,1] B9) ?_
      refine TT.seq (x:=sub [1,1,1,1,1,1,1,1,1,0,0] B9) (y:=sub [1,1,1,1,1,1,1,1,1,0,1] B9) ?_
      refine TT.rg [0] [kp] rfl rfl ?_
      refine DL.pu 21 (.int .i64 0) rfl (p_assign rfl rfl) ?_
      refine DL.nil ?_
      refine TT.block (c:=sub [1,1,1,1,1,1,1,1,1,0,1,0] B9) ?_
      refine TT.loop (c:=sub [1,1,1,1,1,1,1,1,1,0,1,0,0] B9) ?_
      obtain ⟨z_o61_223,h236,h237⟩:=bind_some h157
      refine TT.weak (law13_DerMakes.L1_ok a0 a1 a2_v a3_v a4_0 a4_0_3 a4_0_5 a4_0_6 a4_1 a4_1_3 a4_1_5 a4_1_6 a5 b1 t50 t50_3 t50_5 t50_6 t54 t54_3 t54_5 t54_6 b58 b59 t65 t65_3 t65_5 t65_6 b69 s72_v s72_c t73 t73_3 t73_5 t73_6 b77 z_o46_143_v z_o46_143_c hE78 (((a3).length : Int).toNat + 1) (a3) 0 s64_v s64_c z_o61_223 ho_s64 h236 (fun z_o61_223_v z_o61_223_c ho_z_o61_223 => ?_)) (Sub.cons rfl (Sub.cons rfl (Sub.cons rfl (Sub.cons rfl (Sub.cons rfl (Sub.cons rfl (Sub.cons rfl (Sub.cons rfl (Sub.cons rfl (Sub.cons rfl (Sub.cons rfl (Sub.cons rfl (Sub.cons rfl (Sub.nil _))))))))))))))
      refine TT.seq (x:=sub [1,1,1,1,1,1,1,1,1,1,0] B9) (y:=sub [1,1,1,1,1,1,1,1,1,1,1] B9) ?_
      refine TT.rg [0,1,2,3] [kp,kp,kp,(.store,none)] rfl rfl ?_
      refine DL.mv 93 (s72_v) rfl rfl rfl ?_
      refine DL.pu 94 (.agg #[.int .i64 99,.bool false,.int .i64 0,(.slice none 0 0),str ([] : List UInt8),(.slice none 0 0),(.slice none 0 0)]) rfl (p_build (vs:=[(0,.int .i64 99)]) (fun w => by kernel_rfl) rfl rfl) ?_
      obtain ⟨g239,h240⟩:=req_some h237
      refine DL.pu 95 (elp s72_v (((0 : Int).toNat) * 7)) rfl (p_slIx ty_u25 ty_s27 (OwnS.some (OwnS.mono ho_s72 hx76) (by decide) g239) (by decide) g239 rfl rfl rfl) ?_
      obtain ⟨c241,c241_e⟩ : ∃ c,c = splice s72_c (((0 : Int).toNat) * 7) [.int .i64 99,.bool false,.int .i64 0,(.slice none 0 0),str ([] : List UInt8),(.slice none 0 0),(.slice none 0 0)]:=⟨_,rfl⟩
      refine DL.put (H':=[(some b77,.cells ((Der.ce t73 t73_3 t73_5 t73_6)) 27 (0,0)),(Value.ownBlock s72_v,.cells c241 27 (0,0)),(some b69,.cells ((Der.ce t65 t65_3 t65_5 t65_6)) 27 (0,0)),(Value.ownBlock z_o61_223_v,.cells z_o61_223_c 50 (0,0)),(some b59,.cells ((Der.ce t54 t54_3 t54_5 t54_6)) 27 (0,0)),(some b58,.cells ((Der.ce t50 t50_3 t50_5 t50_6)) 27 (0,0)),(Value.ownBlock z_o46_143_v,.cells z_o46_143_c 5 (0,0)),(some b1,.cells (#[.int .i64 (Der.kind a4_0),.bool (Der.flag a4_0),.int .i64 (Der.num a4_0),a4_0_3,str (Der.text a4_0),a4_0_5,a4_0_6,.int .i64 (Der.kind a4_1),.bool (Der.flag a4_1),.int .i64 (Der.num a4_1),a4_1_3,str (Der.text a4_1),a4_1_5,a4_1_6]) 56 (0,0))]) (i:=3) rfl (Wn.none rfl) rfl rfl (by rw [c241_e]; exact f_storeElA (j:=1) (vs:=[.int .i64 99,.bool false,.int .i64 0,(.slice none 0 0),str ([] : List UInt8),(.slice none 0 0),(.slice none 0 0)]) ty_s27 rfl (OwnS.V (OwnS.mono ho_s72 hx76)).choose_spec (lt_len (by decide) g239) rfl (one_cons trivial (one_cons trivial (one_cons trivial (one_cons (sl_one (RowV.sl (IntRow.nil .u8 M76))) (one_cons trivial (one_cons (sl_one (RowV.sl (IntRow.nil .u64 M76))) (one_cons (sl_one (RowS.sl (RowS.nil ShDer M76))) one_nil))))))) rfl rfl rfl) (keep_none rfl) ?_
      refine DL.nil ?_
      refine TT.seq (x:=sub [1,1,1,1,1,1,1,1,1,1,1,0] B9) (y:=sub [1,1,1,1,1,1,1,1,1,1,1,1] B9) ?_
      refine TT.rgD [0,1,2,3,4,5,6,7,8,9,10,11,12,13,14,15,16,17,18,19,20,21,22,23,24,25,26,27,28,29,30,31,32,33,34,35,36,37,38,39,40,41,42,43,45,46,47,44,48,49,50,51,52,53,54,56,57,55,58,59,60,61,62,63,64,65] [0,1,0,4,15,31,63,127,63,319,1023,2047,4095,8191,8191,24575,65535,131071,262143,524287,524287,1572863,4194303,8388607,16777215,33554431,33554431,100663295,268435455,536870911,1073741823,2147483647,2147483647,6442450943,2147483647,19327352831,66571993087,135291469823,274877906943,549755813887,1099511627775,2199023255551,2199023255551,6597069766655,17592186044415,2199023255551,2199023255551,72567767433215,213305255788543,529964604588031,1125899906842623,2251799813685247,4503599627370495,9007199254740991,18014398509481983,36028797018963967,9007199254740991,81064793292668927,225179981368524799,513410357520236543,1152921504606846975,2305843009213693951,4611686018427387903,9223372036854775807,18446744073709551615,36893488147419103231] [kp,(.free,none),kp,kp,kq,kp,kp,(.free,none),kp,kp,kq,kp,kp,(.look,some 5),kp,kp,kq,kp,kp,(.look,some 4),kp,kp,kq,kp,kp,(.look,some 2),kp,kp,kq,kp,kp,(.look,some 0),kp,(.look,some 7),kp,(.look,some 7),(.alloc,none),kp,kq,kp,kp,kp,kp,(.look,some 7),(.free,none),kp,kp,(.look,some 7),(.alloc,none),kp,kq,kp,kp,kp,(.look,some 7),(.free,none),kp,(.look,some 7),(.alloc,none),kp,kq,kp,kp,kq,kp,kp] rfl mixed (by kernel_rfl) ?_
      intro w242 hl242 hj242 hz242
      refine DL.mv 96 (.int .i64 a0) rfl rfl rfl ?_
      obtain ⟨t243,h244,h245⟩:=bind_some h240
      refine DL.callFf (G:=Value × Value × Value) (u:=fun g => .agg (Der.ce t243 (g.1) (g.2.1) (g.2.2))) (Q:=fun g M_ => (IntRow M_ .u8 (g.1) (Der.bytes t243)) ∧ (IntRow M_ .u64 (g.2.1) (Der.arcs t243)) ∧ (RowS ShDer M_ (g.2.2) (Tree.kids t243))) (A:=[(some b77,.cells ((Der.ce t73 t73_3 t73_5 t73_6)) 27 (0,0)),(Value.ownBlock s72_v,.cells c241 27 (0,0)),(some b69,.cells ((Der.ce t65 t65_3 t65_5 t65_6)) 27 (0,0)),(Value.ownBlock z_o61_223_v,.cells z_o61_223_c 50 (0,0)),(some b59,.cells ((Der.ce t54 t54_3 t54_5 t54_6)) 27 (0,0)),(some b58,.cells ((Der.ce t50 t50_3 t50_5 t50_6)) 27 (0,0)),(Value.ownBlock z_o46_143_v,.cells z_o46_143_c 5 (0,0)),(some b1,.cells (#[.int .i64 (Der.kind a4_0),.bool (Der.flag a4_0),.int .i64 (Der.num a4_0),a4_0_3,str (Der.text a4_0),a4_0_5,a4_0_6,.int .i64 (Der.kind a4_1),.bool (Der.flag a4_1),.int .i64 (Der.num a4_1),a4_1_3,str (Der.text a4_1),a4_1_5,a4_1_6]) 56 (0,0))]) (J:=[]) (fun J246 => ((some b77,.cells ((Der.ce t73 t73_3 t73_5 t73_6)) 27 (0,0)) :: (Value.ownBlock s72_v,.cells c241 27 (0,0)) :: (some b69,.cells ((Der.ce t65 t65_3 t65_5 t65_6)) 27 (0,0)) :: (Value.ownBlock z_o61_223_v,.cells z_o61_223_c 50 (0,0)) :: (some b59,.cells ((Der.ce t54 t54_3 t54_5 t54_6)) 27 (0,0)) :: (some b58,.cells ((Der.ce t50 t50_3 t50_5 t50_6)) 27 (0,0)) :: (Value.ownBlock z_o46_143_v,.cells z_o46_143_c 5 (0,0)) :: (some b1,.cells (#[.int .i64 (Der.kind a4_0),.bool (Der.flag a4_0),.int .i64 (Der.num a4_0),a4_0_3,str (Der.text a4_0),a4_0_5,a4_0_6,.int .i64 (Der.kind a4_1),.bool (Der.flag a4_1),.int .i64 (Der.num a4_1),a4_1_3,str (Der.text a4_1),a4_1_5,a4_1_6]) 56 (0,0)) :: J246)) hl242.2.2.2 hE78.nil (List.append_nil _).symm (fun _ => rfl) (by simp) (i:=1) rfl (Wn.none rfl) rfl rfl rfl rfl rfl rfl (args_val (vs:=[.int .i64 a0]) rfl) (fun w => enter21 _ w) (fun w hc hI => der_Int.ok h244 (M:=M76) w hI ) ?_
      rintro ⟨t243_3,t243_5,t243_6⟩ M246 J246 hE246 hx246 ⟨hr_t243_3,hr_t243_5,hr_t243_6⟩
      show DL _ _ _ _ _ _ _ _ _ _ _ _ ((some b77,.cells ((Der.ce t73 t73_3 t73_5 t73_6)) 27 (0,0)) :: (Value.ownBlock s72_v,.cells c241 27 (0,0)) :: (some b69,.cells ((Der.ce t65 t65_3 t65_5 t65_6)) 27 (0,0)) :: (Value.ownBlock z_o61_223_v,.cells z_o61_223_c 50 (0,0)) :: (some b59,.cells ((Der.ce t54 t54_3 t54_5 t54_6)) 27 (0,0)) :: (some b58,.cells ((Der.ce t50 t50_3 t50_5 t50_6)) 27 (0,0)) :: (Value.ownBlock z_o46_143_v,.cells z_o46_143_c 5 (0,0)) :: (some b1,.cells (#[.int .i64 (Der.kind a4_0),.bool (Der.flag a4_0),.int .i64 (Der.num a4_0),a4_0_3,str (Der.text a4_0),a4_0_5,a4_0_6,.int .i64 (Der.kind a4_1),.bool (Der.flag a4_1),.int .i64 (Der.num a4_1),a4_1_3,str (Der.text a4_1),a4_1_5,a4_1_6]) 56 (0,0)) :: J246)
      refine DL.mv 98 (.int .i64 a0) rfl rfl rfl ?_
      refine DL.pu 99 (.agg #[.int .i64 2,.bool false,.int .i64 a0,(.slice none 0 0),str ([] : List UInt8),(.slice none 0 0),(.slice none 0 0)]) rfl (p_build (vs:=[(0,.int .i64 2),(2,.int .i64 a0)]) (fun w => by kernel_rfl) rfl rfl) ?_
      obtain ⟨t247,h248,h249⟩:=bind_some h245
      refine DL.qu 100 (.bool t247) rfl (f_callR rfl rfl (args_val (vs:=[.agg (Der.ce t243 t243_3 t243_5 t243_6),.agg #[.int .i64 2,.bool false,.int .i64 a0,(.slice none 0 0),str ([] : List UInt8),(.slice none 0 0),(.slice none 0 0)]]) rfl) (fun w => enter18 _ w) (fun w hc => ref13_Same.val h248 (M:=M246) w (hE246.extJ (A:=[(some b77,.cells ((Der.ce t73 t73_3 t73_5 t73_6)) 27 (0,0)),(Value.ownBlock s72_v,.cells c241 27 (0,0)),(some b69,.cells ((Der.ce t65 t65_3 t65_5 t65_6)) 27 (0,0)),(Value.ownBlock z_o61_223_v,.cells z_o61_223_c 50 (0,0)),(some b59,.cells ((Der.ce t54 t54_3 t54_5 t54_6)) 27 (0,0)),(some b58,.cells ((Der.ce t50 t50_3 t50_5 t50_6)) 27 (0,0)),(Value.ownBlock z_o46_143_v,.cells z_o46_143_c 5 (0,0)),(some b1,.cells (#[.int .i64 (Der.kind a4_0),.bool (Der.flag a4_0),.int .i64 (Der.num a4_0),a4_0_3,str (Der.text a4_0),a4_0_5,a4_0_6,.int .i64 (Der.kind a4_1),.bool (Der.flag a4_1),.int .i64 (Der.num a4_1),a4_1_3,str (Der.text a4_1),a4_1_5,a4_1_6]) 56 (0,0))]) hc rfl) hr_t243_3 hr_t243_5 hr_t243_6 (IntRow.nil .u8 M246) (IntRow.nil .u64 M246) (RowS.nil ShDer M246))) ?_
      refine DL.mv 101 (.bool t247) rfl rfl rfl ?_
      obtain ⟨q251,h252,h253⟩:=bind_some h249
      refine DL.cutJ [(some b77,.cells ((Der.ce t73 t73_3 t73_5 t73_6)) 27 (0,0)),(Value.ownBlock s72_v,.cells c241 27 (0,0)),(some b69,.cells ((Der.ce t65 t65_3 t65_5 t65_6)) 27 (0,0)),(Value.ownBlock z_o61_223_v,.cells z_o61_223_c 50 (0,0)),(some b59,.cells ((Der.ce t54 t54_3 t54_5 t54_6)) 27 (0,0)),(some b58,.cells ((Der.ce t50 t50_3 t50_5 t50_6)) 27 (0,0)),(Value.ownBlock z_o46_143_v,.cells z_o46_143_c 5 (0,0)),(some b1,.cells (#[.int .i64 (Der.kind a4_0),.bool (Der.flag a4_0),.int .i64 (Der.num a4_0),a4_0_3,str (Der.text a4_0),a4_0_5,a4_0_6,.int .i64 (Der.kind a4_1),.bool (Der.flag a4_1),.int .i64 (Der.num a4_1),a4_1_3,str (Der.text a4_1),a4_1_5,a4_1_6]) 56 (0,0))] M246 hE246 [(2,a2_v),(3,a3_v),(5,.int .i64 a5),(10,ptr b1 0),(14,ptr b58 0),(15,ptr b59 0),(17,ptr b69 0),(19,ptr b77 0),(107,.bool q251)] [12,13,14,15,16,17,18,19,20,21,22,23,24,25,26,27,28,29,30,31,32,33,34,35,36,37,38,39,40,41,42,43,45,46,47,44,48,49,50,51,52,53,54,56,57,55,58,59,60,61,62,63,64,65] ?_ (fun J254 => ?_)
      ·
       intro M255 J255 hE255 hx255
       show DL _ _ _ _ _ _ _ _ _ _ _ _ ((some b77,.cells ((Der.ce t73 t73_3 t73_5 t73_6)) 27 (0,0)) :: (Value.ownBlock s72_v,.cells c241 27 (0,0)) :: (some b69,.cells ((Der.ce t65 t65_3 t65_5 t65_6)) 27 (0,0)) :: (Value.ownBlock z_o61_223_v,.cells z_o61_223_c 50 (0,0)) :: (some b59,.cells ((Der.ce t54 t54_3 t54_5 t54_6)) 27 (0,0)) :: (some b58,.cells ((Der.ce t50 t50_3 t50_5 t50_6)) 27 (0,0)) :: (Value.ownBlock z_o46_143_v,.cells z_o46_143_c 5 (0,0)) :: (some b1,.cells (#[.int .i64 (Der.kind a4_0),.bool (Der.flag a4_0),.int .i64 (Der.num a4_0),a4_0_3,str (Der.text a4_0),a4_0_5,a4_0_6,.int .i64 (Der.kind a4_1),.bool (Der.flag a4_1),.int .i64 (Der.num a4_1),a4_1_3,str (Der.text a4_1),a4_1_5,a4_1_6]) 56 (0,0)) :: J255)
       refine DL.mv 108 (.bool q251) rfl rfl rfl ?_
       obtain ⟨q266,h267,h268⟩:=bind_some h253
       refine DL.cut [(2,a2_v),(3,a3_v),(5,.int .i64 a5),(10,ptr b1 0),(15,ptr b59 0),(17,ptr b69 0),(19,ptr b77 0),(113,.bool q266)] [18,19,20,21,22,23,24,25,26,27,28,29,30,31,32,33,34,35,36,37,38,39,40,41,42,43,45,46,47,44,48,49,50,51,52,53,54,56,57,55,58,59,60,61,62,63,64,65] ?_ (fun J269 => ?_)
       ·
        refine DL.mv 114 (.bool q266) rfl rfl rfl ?_
        obtain ⟨q277,h278,h279⟩:=bind_some h268
        refine DL.cut [(3,a3_v),(5,.int .i64 a5),(10,ptr b1 0),(17,ptr b69 0),(19,ptr b77 0),(119,.bool q277)] [24,25,26,27,28,29,30,31,32,33,34,35,36,37,38,39,40,41,42,43,45,46,47,44,48,49,50,51,52,53,54,56,57,55,58,59,60,61,62,63,64,65] ?_ (fun J280 => ?_)
        ·
         refine DL.mv 120 (.bool q277) rfl rfl rfl ?_
         obtain ⟨q288,h289,h290⟩:=bind_some h279
         refine DL.cut [(5,.int .i64 a5),(10,ptr b1 0),(19,ptr b77 0),(125,.bool q288)] [30,31,32,33,34,35,36,37,38,39,40,41,42,43,45,46,47,44,48,49,50,51,52,53,54,56,57,55,58,59,60,61,62,63,64,65] ?_ (fun J291 => ?_)
         ·
          refine DL.mv 126 (.bool q288) rfl rfl rfl ?_
          obtain ⟨q299,h300,h301⟩:=bind_some h290
          refine DL.cutJ [(some b77,.cells ((Der.ce t73 t73_3 t73_5 t73_6)) 27 (0,0)),(Value.ownBlock s72_v,.cells c241 27 (0,0)),(some b69,.cells ((Der.ce t65 t65_3 t65_5 t65_6)) 27 (0,0)),(Value.ownBlock z_o61_223_v,.cells z_o61_223_c 50 (0,0)),(some b59,.cells ((Der.ce t54 t54_3 t54_5 t54_6)) 27 (0,0)),(some b58,.cells ((Der.ce t50 t50_3 t50_5 t50_6)) 27 (0,0)),(Value.ownBlock z_o46_143_v,.cells z_o46_143_c 5 (0,0)),(some b1,.cells (#[.int .i64 (Der.kind a4_0),.bool (Der.flag a4_0),.int .i64 (Der.num a4_0),a4_0_3,str (Der.text a4_0),a4_0_5,a4_0_6,.int .i64 (Der.kind a4_1),.bool (Der.flag a4_1),.int .i64 (Der.num a4_1),a4_1_3,str (Der.text a4_1),a4_1_5,a4_1_6]) 56 (0,0))] M255 hE255 [(5,.int .i64 a5),(10,ptr b1 0),(135,.bool q299)] [40,41,42,43,45,46,47,44,48,49,50,51,52,53,54,56,57,55,58,59,60,61,62,63,64,65] ?_ (fun J302 => ?_)
          ·
           intro M303 J303 hE303 hx303
           show DL _ _ _ _ _ _ _ _ _ _ _ _ ((some b77,.cells ((Der.ce t73 t73_3 t73_5 t73_6)) 27 (0,0)) :: (Value.ownBlock s72_v,.cells c241 27 (0,0)) :: (some b69,.cells ((Der.ce t65 t65_3 t65_5 t65_6)) 27 (0,0)) :: (Value.ownBlock z_o61_223_v,.cells z_o61_223_c 50 (0,0)) :: (some b59,.cells ((Der.ce t54 t54_3 t54_5 t54_6)) 27 (0,0)) :: (some b58,.cells ((Der.ce t50 t50_3 t50_5 t50_6)) 27 (0,0)) :: (Value.ownBlock z_o46_143_v,.cells z_o46_143_c 5 (0,0)) :: (some b1,.cells (#[.int .i64 (Der.kind a4_0),.bool (Der.flag a4_0),.int .i64 (Der.num a4_0),a4_0_3,str (Der.text a4_0),a4_0_5,a4_0_6,.int .i64 (Der.kind a4_1),.bool (Der.flag a4_1),.int .i64 (Der.num a4_1),a4_1_3,str (Der.text a4_1),a4_1_5,a4_1_6]) 56 (0,0)) :: J303)
           refine DL.mv 136 (.bool q299) rfl rfl rfl ?_
           obtain ⟨q313,h314,h315⟩:=bind_some h301
           refine DL.cutJ [(some b77,.cells ((Der.ce t73 t73_3 t73_5 t73_6)) 27 (0,0)),(Value.ownBlock s72_v,.cells c241 27 (0,0)),(some b69,.cells ((Der.ce t65 t65_3 t65_5 t65_6)) 27 (0,0)),(Value.ownBlock z_o61_223_v,.cells z_o61_223_c 50 (0,0)),(some b59,.cells ((Der.ce t54 t54_3 t54_5 t54_6)) 27 (0,0)),(some b58,.cells ((Der.ce t50 t50_3 t50_5 t50_6)) 27 (0,0)),(Value.ownBlock z_o46_143_v,.cells z_o46_143_c 5 (0,0)),(some b1,.cells (#[.int .i64 (Der.kind a4_0),.bool (Der.flag a4_0),.int .i64 (Der.num a4_0),a4_0_3,str (Der.text a4_0),a4_0_5,a4_0_6,.int .i64 (Der.kind a4_1),.bool (Der.flag a4_1),.int .i64 (Der.num a4_1),a4_1_3,str (Der.text a4_1),a4_1_5,a4_1_6]) 56 (0,0))] M303 hE303 [(10,ptr b1 0),(147,.bool q313)] [52,53,54,56,57,55,58,59,60,61,62,63,64,65] ?_ (fun J316 => ?_)
           ·
            intro M317 J317 hE317 hx317
            show DL _ _ _ _ _ _ _ _ _ _ _ _ ((some b77,.cells ((Der.ce t73 t73_3 t73_5 t73_6)) 27 (0,0)) :: (Value.ownBlock s72_v,.cells c241 27 (0,0)) :: (some b69,.cells ((Der.ce t65 t65_3 t65_5 t65_6)) 27 (0,0)) :: (Value.ownBlock z_o61_223_v,.cells z_o61_223_c 50 (0,0)) :: (some b59,.cells ((Der.ce t54 t54_3 t54_5 t54_6)) 27 (0,0)) :: (some b58,.cells ((Der.ce t50 t50_3 t50_5 t50_6)) 27 (0,0)) :: (Value.ownBlock z_o46_143_v,.cells z_o46_143_c 5 (0,0)) :: (some b1,.cells (#[.int .i64 (Der.kind a4_0),.bool (Der.flag a4_0),.int .i64 (Der.num a4_0),a4_0_3,str (Der.text a4_0),a4_0_5,a4_0_6,.int .i64 (Der.kind a4_1),.bool (Der.flag a4_1),.int .i64 (Der.num a4_1),a4_1_3,str (Der.text a4_1),a4_1_5,a4_1_6]) 56 (0,0)) :: J317)
            refine DL.mv 148 (.bool q313) rfl rfl rfl ?_
            obtain ⟨q331,h332,h333⟩:=bind_some h315
            refine DL.cutJ [(some b77,.cells ((Der.ce t73 t73_3 t73_5 t73_6)) 27 (0,0)),(Value.ownBlock s72_v,.cells c241 27 (0,0)),(some b69,.cells ((Der.ce t65 t65_3 t65_5 t65_6)) 27 (0,0)),(Value.ownBlock z_o61_223_v,.cells z_o61_223_c 50 (0,0)),(some b59,.cells ((Der.ce t54 t54_3 t54_5 t54_6)) 27 (0,0)),(some b58,.cells ((Der.ce t50 t50_3 t50_5 t50_6)) 27 (0,0)),(Value.ownBlock z_o46_143_v,.cells z_o46_143_c 5 (0,0)),(some b1,.cells (#[.int .i64 (Der.kind a4_0),.bool (Der.flag a4_0),.int .i64 (Der.num a4_0),a4_0_3,str (Der.text a4_0),a4_0_5,a4_0_6,.int .i64 (Der.kind a4_1),.bool (Der.flag a4_1),.int .i64 (Der.num a4_1),a4_1_3,str (Der.text a4_1),a4_1_5,a4_1_6]) 56 (0,0))] M317 hE317 [(157,.bool q331)] [62,63,64,65] ?_ (fun J334 => ?_)
            ·
             intro M335 J335 hE335 hx335
             show DL _ _ _ _ _ _ _ _ _ _ _ _ ((some b77,.cells ((Der.ce t73 t73_3 t73_5 t73_6)) 27 (0,0)) :: (Value.ownBlock s72_v,.cells c241 27 (0,0)) :: (some b69,.cells ((Der.ce t65 t65_3 t65_5 t65_6)) 27 (0,0)) :: (Value.ownBlock z_o61_223_v,.cells z_o61_223_c 50 (0,0)) :: (some b59,.cells ((Der.ce t54 t54_3 t54_5 t54_6)) 27 (0,0)) :: (some b58,.cells ((Der.ce t50 t50_3 t50_5 t50_6)) 27 (0,0)) :: (Value.ownBlock z_o46_143_v,.cells z_o46_143_c 5 (0,0)) :: (some b1,.cells (#[.int .i64 (Der.kind a4_0),.bool (Der.flag a4_0),.int .i64 (Der.num a4_0),a4_0_3,str (Der.text a4_0),a4_0_5,a4_0_6,.int .i64 (Der.kind a4_1),.bool (Der.flag a4_1),.int .i64 (Der.num a4_1),a4_1_3,str (Der.text a4_1),a4_1_5,a4_1_6]) 56 (0,0)) :: J335)
             refine DL.mv 158 (.bool q331) rfl rfl rfl ?_
             obtain ⟨q349,h350,h351⟩:=bind_some h333
             refine DL.cut [(160,.bool q349)] [65] ?_ (fun J352 => ?_)
             ·
              refine DL.pu 12 (.bool q349) rfl (p_assign rfl rfl) ?_
              refine DL.nil' hl242 ?_
              refine TT.settle (A:=[(some b77,.cells ((Der.ce t73 t73_3 t73_5 t73_6)) 27 (0,0)),(Value.ownBlock s72_v,.cells c241 27 (0,0)),(some b69,.cells ((Der.ce t65 t65_3 t65_5 t65_6)) 27 (0,0)),(Value.ownBlock z_o61_223_v,.cells z_o61_223_c 50 (0,0)),(some b59,.cells ((Der.ce t54 t54_3 t54_5 t54_6)) 27 (0,0)),(some b58,.cells ((Der.ce t50 t50_3 t50_5 t50_6)) 27 (0,0)),(Value.ownBlock z_o46_143_v,.cells z_o46_143_c 5 (0,0)),(some b1,.cells (#[.int .i64 (Der.kind a4_0),.bool (Der.flag a4_0),.int .i64 (Der.num a4_0),a4_0_3,str (Der.text a4_0),a4_0_5,a4_0_6,.int .i64 (Der.kind a4_1),.bool (Der.flag a4_1),.int .i64 (Der.num a4_1),a4_1_3,str (Der.text a4_1),a4_1_5,a4_1_6]) 56 (0,0))]) (J:=J335) hE335 ?_
              intro I359 hE359 hxI359
              obtain rfl:=Option.some.inj h351
              exact retnE (rs:=[.tmp 12]) (vs:=[.bool q349]) hE359.base Tryd.func9 rfl rfl rfl (res_cons (ResV.tmp rfl) res_nil) rfl
             ·
              by_cases c353 : q331 = true
              ·
               have h354:=ite_true c353 h350
               obtain ⟨t355,h356,h357⟩:=bind_some h354
               refine DL.quiet (v:=.bool t355) rfl (Wn.yes c353 rfl rfl rfl rfl) rfl rfl rfl (f_callR rfl rfl (args_val (vs:=[]) rfl) (fun w => enter11 _ w) (fun w hc => law13_known.val h356 (M:=M335) w (hE335.extJ (A:=[(some b77,.cells ((Der.ce t73 t73_3 t73_5 t73_6)) 27 (0,0)),(Value.ownBlock s72_v,.cells c241 27 (0,0)),(some b69,.cells ((Der.ce t65 t65_3 t65_5 t65_6)) 27 (0,0)),(Value.ownBlock z_o61_223_v,.cells z_o61_223_c 50 (0,0)),(some b59,.cells ((Der.ce t54 t54_3 t54_5 t54_6)) 27 (0,0)),(some b58,.cells ((Der.ce t50 t50_3 t50_5 t50_6)) 27 (0,0)),(Value.ownBlock z_o46_143_v,.cells z_o46_143_c 5 (0,0)),(some b1,.cells (#[.int .i64 (Der.kind a4_0),.bool (Der.flag a4_0),.int .i64 (Der.num a4_0),a4_0_3,str (Der.text a4_0),a4_0_5,a4_0_6,.int .i64 (Der.kind a4_1),.bool (Der.flag a4_1),.int .i64 (Der.num a4_1),a4_1_3,str (Der.text a4_1),a4_1_5,a4_1_6]) 56 (0,0))]) hc rfl) (Glob.mono hG ((((((((hx53.trans hx57).trans hx68).trans hx76).trans hx246).trans hx255).trans hx303).trans hx317).trans hx335)))) ?_
               refine DL.pu 160 (.bool t355) rfl (p_pick_t c353 rfl rfl rfl) ?_
               obtain rfl:=Option.some.inj h357
               exact DL.weak J352 (Sub.cons rfl (Sub.nil _))
              ·
               replace c353:=Bool.eq_false_iff.mpr c353
               have h358:=ite_false c353 h350
               refine DL.not (i:=63) rfl (Wn.no c353 rfl rfl rfl rfl) rfl rfl ?_
               refine DL.pu 160 (.bool false) rfl (p_pick_f c353 rfl rfl rfl) ?_
               obtain rfl:=Option.some.inj h358
               exact DL.weak J352 (Sub.cons rfl (Sub.nil _))
            ·
             by_cases c330 : q313 = true
             ·
              have h336:=ite_true c330 h332
              refine DL.pure (v:=ptr b1 7) rfl (Wn.yes c330 rfl rfl rfl rfl) rfl rfl rfl (p_indexAddr (i:=1) ty_u56 ty_s27 (by decide) (by decide) rfl rfl rfl) ?_
              refine DL.look (v:=.agg (Der.ce a4_1 a4_1_3 a4_1_5 a4_1_6)) (x:=7) (b:=b1) (i:=54) rfl (Wn.yes c330 rfl rfl rfl rfl) rfl rfl rfl rfl rfl (List.mem_of_getElem? (i:=7) rfl) (b_loadSubA (vs:=[.int .i64 (Der.kind a4_1),.bool (Der.flag a4_1),.int .i64 (Der.num a4_1),a4_1_3,str (Der.text a4_1),a4_1_5,a4_1_6]) (off:=7) ty_a27 ty_s27 rfl rfl rfl rfl) ?_
              refine DL.pure (v:=ptr b1 7) rfl (Wn.yes c330 rfl rfl rfl rfl) rfl rfl rfl (p_indexAddr (i:=1) ty_u56 ty_s27 (by decide) (by decide) rfl rfl rfl) ?_
              refine DL.look (v:=.agg (Der.ce a4_1 a4_1_3 a4_1_5 a4_1_6)) (x:=7) (b:=b1) (i:=57) rfl (Wn.yes c330 rfl rfl rfl rfl) rfl rfl rfl rfl rfl (List.mem_of_getElem? (i:=7) rfl) (b_loadSubA (vs:=[.int .i64 (Der.kind a4_1),.bool (Der.flag a4_1),.int .i64 (Der.num a4_1),a4_1_3,str (Der.text a4_1),a4_1_5,a4_1_6]) (off:=7) ty_a27 ty_s27 rfl rfl rfl rfl) ?_
              obtain ⟨t337,h338,h339⟩:=bind_some h336
              refine DL.callFf (G:=Value × Value × Value) (u:=fun g => .agg (Der.ce t337 (g.1) (g.2.1) (g.2.2))) (Q:=fun g M_ => (IntRow M_ .u8 (g.1) (Der.bytes t337)) ∧ (IntRow M_ .u64 (g.2.1) (Der.arcs t337)) ∧ (RowS ShDer M_ (g.2.2) (Tree.kids t337))) (A:=[(some b77,.cells ((Der.ce t73 t73_3 t73_5 t73_6)) 27 (0,0)),(Value.ownBlock s72_v,.cells c241 27 (0,0)),(some b69,.cells ((Der.ce t65 t65_3 t65_5 t65_6)) 27 (0,0)),(Value.ownBlock z_o61_223_v,.cells z_o61_223_c 50 (0,0)),(some b59,.cells ((Der.ce t54 t54_3 t54_5 t54_6)) 27 (0,0)),(some b58,.cells ((Der.ce t50 t50_3 t50_5 t50_6)) 27 (0,0)),(Value.ownBlock z_o46_143_v,.cells z_o46_143_c 5 (0,0)),(some b1,.cells (#[.int .i64 (Der.kind a4_0),.bool (Der.flag a4_0),.int .i64 (Der.num a4_0),a4_0_3,str (Der.text a4_0),a4_0_5,a4_0_6,.int .i64 (Der.kind a4_1),.bool (Der.flag a4_1),.int .i64 (Der.num a4_1),a4_1_3,str (Der.text a4_1),a4_1_5,a4_1_6]) 56 (0,0))]) (J:=J317) (fun J340 => ((some b77,.cells ((Der.ce t73 t73_3 t73_5 t73_6)) 27 (0,0)) :: (Value.ownBlock s72_v,.cells c241 27 (0,0)) :: (some b69,.cells ((Der.ce t65 t65_3 t65_5 t65_6)) 27 (0,0)) :: (Value.ownBlock z_o61_223_v,.cells z_o61_223_c 50 (0,0)) :: (some b59,.cells ((Der.ce t54 t54_3 t54_5 t54_6)) 27 (0,0)) :: (some b58,.cells ((Der.ce t50 t50_3 t50_5 t50_6)) 27 (0,0)) :: (Value.ownBlock z_o46_143_v,.cells z_o46_143_c 5 (0,0)) :: (some b1,.cells (#[.int .i64 (Der.kind a4_0),.bool (Der.flag a4_0),.int .i64 (Der.num a4_0),a4_0_3,str (Der.text a4_0),a4_0_5,a4_0_6,.int .i64 (Der.kind a4_1),.bool (Der.flag a4_1),.int .i64 (Der.num a4_1),a4_1_3,str (Der.text a4_1),a4_1_5,a4_1_6]) 56 (0,0)) :: J340)) hl242.2.2.2 hE317 rfl (fun _ => rfl) (by simp) (i:=55) rfl (Wn.yes c330 rfl rfl rfl rfl) rfl rfl rfl rfl rfl rfl (args_val (vs:=[.agg (Der.ce a4_1 a4_1_3 a4_1_5 a4_1_6)]) rfl) (fun w => enter27 _ w) (fun w hc hI => der_Set.ok h338 (M:=M317) w hI (IntRow.mono hr_a4_1_3 (((((((hx53.trans hx57).trans hx68).trans hx76).trans hx246).trans hx255).trans hx303).trans hx317)) (IntRow.mono hr_a4_1_5 (((((((hx53.trans hx57).trans hx68).trans hx76).trans hx246).trans hx255).trans hx303).trans hx317)) (RowS.mono hr_a4_1_6 (((((((hx53.trans hx57).trans hx68).trans hx76).trans hx246).trans hx255).trans hx303).trans hx317))) ?_
              rintro ⟨t337_3,t337_5,t337_6⟩ M340 J340 hE340 hx340 ⟨hr_t337_3,hr_t337_5,hr_t337_6⟩
              show DL _ _ _ _ _ _ _ _ _ _ _ _ ((some b77,.cells ((Der.ce t73 t73_3 t73_5 t73_6)) 27 (0,0)) :: (Value.ownBlock s72_v,.cells c241 27 (0,0)) :: (some b69,.cells ((Der.ce t65 t65_3 t65_5 t65_6)) 27 (0,0)) :: (Value.ownBlock z_o61_223_v,.cells z_o61_223_c 50 (0,0)) :: (some b59,.cells ((Der.ce t54 t54_3 t54_5 t54_6)) 27 (0,0)) :: (some b58,.cells ((Der.ce t50 t50_3 t50_5 t50_6)) 27 (0,0)) :: (Value.ownBlock z_o46_143_v,.cells z_o46_143_c 5 (0,0)) :: (some b1,.cells (#[.int .i64 (Der.kind a4_0),.bool (Der.flag a4_0),.int .i64 (Der.num a4_0),a4_0_3,str (Der.text a4_0),a4_0_5,a4_0_6,.int .i64 (Der.kind a4_1),.bool (Der.flag a4_1),.int .i64 (Der.num a4_1),a4_1_3,str (Der.text a4_1),a4_1_5,a4_1_6]) 56 (0,0)) :: J340)
              refine DL.newRowSA (s:=ShDer) (zs:=[a4_1]) (cells:=[.int .i64 (Der.kind a4_1),.bool (Der.flag a4_1),.int .i64 (Der.num a4_1),a4_1_3,str (Der.text a4_1),a4_1_5,a4_1_6]) (n:=1) (A:=[(some b77,.cells ((Der.ce t73 t73_3 t73_5 t73_6)) 27 (0,0)),(Value.ownBlock s72_v,.cells c241 27 (0,0)),(some b69,.cells ((Der.ce t65 t65_3 t65_5 t65_6)) 27 (0,0)),(Value.ownBlock z_o61_223_v,.cells z_o61_223_c 50 (0,0)),(some b59,.cells ((Der.ce t54 t54_3 t54_5 t54_6)) 27 (0,0)),(some b58,.cells ((Der.ce t50 t50_3 t50_5 t50_6)) 27 (0,0)),(Value.ownBlock z_o46_143_v,.cells z_o46_143_c 5 (0,0)),(some b1,.cells (#[.int .i64 (Der.kind a4_0),.bool (Der.flag a4_0),.int .i64 (Der.num a4_0),a4_0_3,str (Der.text a4_0),a4_0_5,a4_0_6,.int .i64 (Der.kind a4_1),.bool (Der.flag a4_1),.int .i64 (Der.num a4_1),a4_1_3,str (Der.text a4_1),a4_1_5,a4_1_6]) 56 (0,0))]) (J:=J340) (fun J343 => ((some b77,.cells ((Der.ce t73 t73_3 t73_5 t73_6)) 27 (0,0)) :: (Value.ownBlock s72_v,.cells c241 27 (0,0)) :: (some b69,.cells ((Der.ce t65 t65_3 t65_5 t65_6)) 27 (0,0)) :: (Value.ownBlock z_o61_223_v,.cells z_o61_223_c 50 (0,0)) :: (some b59,.cells ((Der.ce t54 t54_3 t54_5 t54_6)) 27 (0,0)) :: (some b58,.cells ((Der.ce t50 t50_3 t50_5 t50_6)) 27 (0,0)) :: (Value.ownBlock z_o46_143_v,.cells z_o46_143_c 5 (0,0)) :: (some b1,.cells (#[.int .i64 (Der.kind a4_0),.bool (Der.flag a4_0),.int .i64 (Der.num a4_0),a4_0_3,str (Der.text a4_0),a4_0_5,a4_0_6,.int .i64 (Der.kind a4_1),.bool (Der.flag a4_1),.int .i64 (Der.num a4_1),a4_1_3,str (Der.text a4_1),a4_1_5,a4_1_6]) 56 (0,0)) :: J343)) hl242.2.2.2 hE340 rfl (fun _ => rfl) rfl (by decide) rfl (fun i x hx => by match i,hx with | 0,hx => cases hx; exact (Der.cl (t:=a4_1) (IntRow.mono hr_a4_1_3 ((((((((hx53.trans hx57).trans hx68).trans hx76).trans hx246).trans hx255).trans hx303).trans hx317).trans hx340)) (IntRow.mono hr_a4_1_5 ((((((((hx53.trans hx57).trans hx68).trans hx76).trans hx246).trans hx255).trans hx303).trans hx317).trans hx340)) (RowS.mono hr_a4_1_6 ((((((((hx53.trans hx57).trans hx68).trans hx76).trans hx246).trans hx255).trans hx303).trans hx317).trans hx340))) | k + 1,hx => simp at hx) (i:=58) rfl (Wn.yes c330 rfl rfl rfl rfl) rfl rfl rfl (f_buildS (n:=1) (vs:=[(0,.agg (Der.ce a4_1 a4_1_3 a4_1_5 a4_1_6))]) elem25 rfl rfl (by kernel_rfl) rfl (args_val2 rfl)) ?_
              intro v343 M343 J343 hE343 hx343 hr_v343
              show DL _ _ _ _ _ _ _ _ _ _ _ _ ((some b77,.cells ((Der.ce t73 t73_3 t73_5 t73_6)) 27 (0,0)) :: (Value.ownBlock s72_v,.cells c241 27 (0,0)) :: (some b69,.cells ((Der.ce t65 t65_3 t65_5 t65_6)) 27 (0,0)) :: (Value.ownBlock z_o61_223_v,.cells z_o61_223_c 50 (0,0)) :: (some b59,.cells ((Der.ce t54 t54_3 t54_5 t54_6)) 27 (0,0)) :: (some b58,.cells ((Der.ce t50 t50_3 t50_5 t50_6)) 27 (0,0)) :: (Value.ownBlock z_o46_143_v,.cells z_o46_143_c 5 (0,0)) :: (some b1,.cells (#[.int .i64 (Der.kind a4_0),.bool (Der.flag a4_0),.int .i64 (Der.num a4_0),a4_0_3,str (Der.text a4_0),a4_0_5,a4_0_6,.int .i64 (Der.kind a4_1),.bool (Der.flag a4_1),.int .i64 (Der.num a4_1),a4_1_3,str (Der.text a4_1),a4_1_5,a4_1_6]) 56 (0,0)) :: J343)
              refine DL.pure (v:=.agg #[.int .i64 9,.bool false,.int .i64 0,(.slice none 0 0),str ([] : List UInt8),(.slice none 0 0),v343]) rfl (Wn.yes c330 rfl rfl rfl rfl) rfl rfl rfl (p_build (vs:=[(0,.int .i64 9),(6,v343)]) (fun w => by obtain ⟨_,_,e_⟩:=RowS.sl hr_v343; subst e_; kernel_rfl) rfl rfl) ?_
              obtain ⟨t344,h345,h346⟩:=bind_some h339
              refine DL.quiet (v:=.bool t344) rfl (Wn.yes c330 rfl rfl rfl rfl) rfl rfl rfl (f_callR rfl rfl (args_val (vs:=[.agg (Der.ce t337 t337_3 t337_5 t337_6),.agg #[.int .i64 9,.bool false,.int .i64 0,(.slice none 0 0),str ([] : List UInt8),(.slice none 0 0),v343]]) rfl) (fun w => enter18 _ w) (fun w hc => ref13_Same.val h345 (M:=M343) w (hE343.extJ (A:=[(some b77,.cells ((Der.ce t73 t73_3 t73_5 t73_6)) 27 (0,0)),(Value.ownBlock s72_v,.cells c241 27 (0,0)),(some b69,.cells ((Der.ce t65 t65_3 t65_5 t65_6)) 27 (0,0)),(Value.ownBlock z_o61_223_v,.cells z_o61_223_c 50 (0,0)),(some b59,.cells ((Der.ce t54 t54_3 t54_5 t54_6)) 27 (0,0)),(some b58,.cells ((Der.ce t50 t50_3 t50_5 t50_6)) 27 (0,0)),(Value.ownBlock z_o46_143_v,.cells z_o46_143_c 5 (0,0)),(some b1,.cells (#[.int .i64 (Der.kind a4_0),.bool (Der.flag a4_0),.int .i64 (Der.num a4_0),a4_0_3,str (Der.text a4_0),a4_0_5,a4_0_6,.int .i64 (Der.kind a4_1),.bool (Der.flag a4_1),.int .i64 (Der.num a4_1),a4_1_3,str (Der.text a4_1),a4_1_5,a4_1_6]) 56 (0,0))]) hc rfl) (IntRow.mono hr_t337_3 hx343) (IntRow.mono hr_t337_5 hx343) (RowS.mono hr_t337_6 hx343) (IntRow.nil .u8 M343) (IntRow.nil .u64 M343) hr_v343)) ?_
              refine DL.pu 157 (.bool t344) rfl (p_pick_t c330 rfl rfl rfl) ?_
              obtain rfl:=Option.some.inj h346
              exact DL.weak (J334 _ _ hE343 (hx340.trans hx343)) (Sub.cons rfl (Sub.nil _))
             ·
              replace c330:=Bool.eq_false_iff.mpr c330
              have h347:=ite_false c330 h332
              refine DL.not (i:=53) rfl (Wn.no c330 rfl rfl rfl rfl) rfl rfl ?_
              refine DL.not (i:=54) rfl (Wn.no c330 rfl rfl rfl rfl) rfl rfl ?_
              refine DL.not (i:=56) rfl (Wn.no c330 rfl rfl rfl rfl) rfl rfl ?_
              refine DL.not (i:=57) rfl (Wn.no c330 rfl rfl rfl rfl) rfl rfl ?_
              refine DL.not (i:=55) rfl (Wn.no c330 rfl rfl rfl rfl) rfl rfl ?_
              refine DL.not (i:=58) rfl (Wn.no c330 rfl rfl rfl rfl) rfl rfl ?_
              refine DL.not (i:=59) rfl (Wn.no c330 rfl rfl rfl rfl) rfl rfl ?_
              refine DL.not (i:=60) rfl (Wn.no c330 rfl rfl rfl rfl) rfl rfl ?_
              refine DL.pu 157 (.bool false) rfl (p_pick_f c330 rfl rfl rfl) ?_
              obtain rfl:=Option.some.inj h347
              exact DL.weak (J334 _ _ hE317 (Ext.refl _)) (Sub.cons rfl (Sub.nil _))
           ·
            by_cases c312 : q299 = true
            ·
             have h318:=ite_true c312 h314
             refine DL.pure (v:=.int .i64 a5) rfl (Wn.yes c312 rfl rfl rfl rfl) rfl rfl rfl (p_move rfl rfl) ?_
             refine DL.pure (v:=ptr b1 0) rfl (Wn.yes c312 rfl rfl rfl rfl) rfl rfl rfl (p_indexAddr (i:=0) ty_u56 ty_s27 (by decide) (by decide) rfl rfl rfl) ?_
             refine DL.look (v:=.agg (Der.ce a4_0 a4_0_3 a4_0_5 a4_0_6)) (x:=7) (b:=b1) (i:=43) rfl (Wn.yes c312 rfl rfl rfl rfl) rfl rfl rfl rfl rfl (List.mem_of_getElem? (i:=7) rfl) (b_loadSubA (vs:=[.int .i64 (Der.kind a4_0),.bool (Der.flag a4_0),.int .i64 (Der.num a4_0),a4_0_3,str (Der.text a4_0),a4_0_5,a4_0_6]) (off:=0) ty_a27 ty_s27 rfl rfl rfl rfl) ?_
             refine DL.pure (v:=.int .i64 a5) rfl (Wn.yes c312 rfl rfl rfl rfl) rfl rfl rfl (p_move rfl rfl) ?_
             refine DL.pure (v:=ptr b1 0) rfl (Wn.yes c312 rfl rfl rfl rfl) rfl rfl rfl (p_indexAddr (i:=0) ty_u56 ty_s27 (by decide) (by decide) rfl rfl rfl) ?_
             refine DL.look (v:=.agg (Der.ce a4_0 a4_0_3 a4_0_5 a4_0_6)) (x:=7) (b:=b1) (i:=47) rfl (Wn.yes c312 rfl rfl rfl rfl) rfl rfl rfl rfl rfl (List.mem_of_getElem? (i:=7) rfl) (b_loadSubA (vs:=[.int .i64 (Der.kind a4_0),.bool (Der.flag a4_0),.int .i64 (Der.num a4_0),a4_0_3,str (Der.text a4_0),a4_0_5,a4_0_6]) (off:=0) ty_a27 ty_s27 rfl rfl rfl rfl) ?_
             obtain ⟨t319,h320,h321⟩:=bind_some h318
             refine DL.callFf (G:=Value × Value × Value) (u:=fun g => .agg (Der.ce t319 (g.1) (g.2.1) (g.2.2))) (Q:=fun g M_ => (IntRow M_ .u8 (g.1) (Der.bytes t319)) ∧ (IntRow M_ .u64 (g.2.1) (Der.arcs t319)) ∧ (RowS ShDer M_ (g.2.2) (Tree.kids t319))) (A:=[(some b77,.cells ((Der.ce t73 t73_3 t73_5 t73_6)) 27 (0,0)),(Value.ownBlock s72_v,.cells c241 27 (0,0)),(some b69,.cells ((Der.ce t65 t65_3 t65_5 t65_6)) 27 (0,0)),(Value.ownBlock z_o61_223_v,.cells z_o61_223_c 50 (0,0)),(some b59,.cells ((Der.ce t54 t54_3 t54_5 t54_6)) 27 (0,0)),(some b58,.cells ((Der.ce t50 t50_3 t50_5 t50_6)) 27 (0,0)),(Value.ownBlock z_o46_143_v,.cells z_o46_143_c 5 (0,0)),(some b1,.cells (#[.int .i64 (Der.kind a4_0),.bool (Der.flag a4_0),.int .i64 (Der.num a4_0),a4_0_3,str (Der.text a4_0),a4_0_5,a4_0_6,.int .i64 (Der.kind a4_1),.bool (Der.flag a4_1),.int .i64 (Der.num a4_1),a4_1_3,str (Der.text a4_1),a4_1_5,a4_1_6]) 56 (0,0))]) (J:=J303) (fun J322 => ((some b77,.cells ((Der.ce t73 t73_3 t73_5 t73_6)) 27 (0,0)) :: (Value.ownBlock s72_v,.cells c241 27 (0,0)) :: (some b69,.cells ((Der.ce t65 t65_3 t65_5 t65_6)) 27 (0,0)) :: (Value.ownBlock z_o61_223_v,.cells z_o61_223_c 50 (0,0)) :: (some b59,.cells ((Der.ce t54 t54_3 t54_5 t54_6)) 27 (0,0)) :: (some b58,.cells ((Der.ce t50 t50_3 t50_5 t50_6)) 27 (0,0)) :: (Value.ownBlock z_o46_143_v,.cells z_o46_143_c 5 (0,0)) :: (some b1,.cells (#[.int .i64 (Der.kind a4_0),.bool (Der.flag a4_0),.int .i64 (Der.num a4_0),a4_0_3,str (Der.text a4_0),a4_0_5,a4_0_6,.int .i64 (Der.kind a4_1),.bool (Der.flag a4_1),.int .i64 (Der.num a4_1),a4_1_3,str (Der.text a4_1),a4_1_5,a4_1_6]) 56 (0,0)) :: J322)) hl242.2.2.2 hE303 rfl (fun _ => rfl) (by simp) (i:=44) rfl (Wn.yes c312 rfl rfl rfl rfl) rfl rfl rfl rfl rfl rfl (args_val (vs:=[.int .i64 a5,.agg (Der.ce a4_0 a4_0_3 a4_0_5 a4_0_6)]) rfl) (fun w => enter28 _ w) (fun w hc hI => der_Tag.ok h320 (M:=M303) w hI (IntRow.mono hr_a4_0_3 ((((((hx53.trans hx57).trans hx68).trans hx76).trans hx246).trans hx255).trans hx303)) (IntRow.mono hr_a4_0_5 ((((((hx53.trans hx57).trans hx68).trans hx76).trans hx246).trans hx255).trans hx303)) (RowS.mono hr_a4_0_6 ((((((hx53.trans hx57).trans hx68).trans hx76).trans hx246).trans hx255).trans hx303))) ?_
             rintro ⟨t319_3,t319_5,t319_6⟩ M322 J322 hE322 hx322 ⟨hr_t319_3,hr_t319_5,hr_t319_6⟩
             show DL _ _ _ _ _ _ _ _ _ _ _ _ ((some b77,.cells ((Der.ce t73 t73_3 t73_5 t73_6)) 27 (0,0)) :: (Value.ownBlock s72_v,.cells c241 27 (0,0)) :: (some b69,.cells ((Der.ce t65 t65_3 t65_5 t65_6)) 27 (0,0)) :: (Value.ownBlock z_o61_223_v,.cells z_o61_223_c 50 (0,0)) :: (some b59,.cells ((Der.ce t54 t54_3 t54_5 t54_6)) 27 (0,0)) :: (some b58,.cells ((Der.ce t50 t50_3 t50_5 t50_6)) 27 (0,0)) :: (Value.ownBlock z_o46_143_v,.cells z_o46_143_c 5 (0,0)) :: (some b1,.cells (#[.int .i64 (Der.kind a4_0),.bool (Der.flag a4_0),.int .i64 (Der.num a4_0),a4_0_3,str (Der.text a4_0),a4_0_5,a4_0_6,.int .i64 (Der.kind a4_1),.bool (Der.flag a4_1),.int .i64 (Der.num a4_1),a4_1_3,str (Der.text a4_1),a4_1_5,a4_1_6]) 56 (0,0)) :: J322)
             refine DL.newRowSA (s:=ShDer) (zs:=[a4_0]) (cells:=[.int .i64 (Der.kind a4_0),.bool (Der.flag a4_0),.int .i64 (Der.num a4_0),a4_0_3,str (Der.text a4_0),a4_0_5,a4_0_6]) (n:=1) (A:=[(some b77,.cells ((Der.ce t73 t73_3 t73_5 t73_6)) 27 (0,0)),(Value.ownBlock s72_v,.cells c241 27 (0,0)),(some b69,.cells ((Der.ce t65 t65_3 t65_5 t65_6)) 27 (0,0)),(Value.ownBlock z_o61_223_v,.cells z_o61_223_c 50 (0,0)),(some b59,.cells ((Der.ce t54 t54_3 t54_5 t54_6)) 27 (0,0)),(some b58,.cells ((Der.ce t50 t50_3 t50_5 t50_6)) 27 (0,0)),(Value.ownBlock z_o46_143_v,.cells z_o46_143_c 5 (0,0)),(some b1,.cells (#[.int .i64 (Der.kind a4_0),.bool (Der.flag a4_0),.int .i64 (Der.num a4_0),a4_0_3,str (Der.text a4_0),a4_0_5,a4_0_6,.int .i64 (Der.kind a4_1),.bool (Der.flag a4_1),.int .i64 (Der.num a4_1),a4_1_3,str (Der.text a4_1),a4_1_5,a4_1_6]) 56 (0,0))]) (J:=J322) (fun J325 => ((some b77,.cells ((Der.ce t73 t73_3 t73_5 t73_6)) 27 (0,0)) :: (Value.ownBlock s72_v,.cells c241 27 (0,0)) :: (some b69,.cells ((Der.ce t65 t65_3 t65_5 t65_6)) 27 (0,0)) :: (Value.ownBlock z_o61_223_v,.cells z_o61_223_c 50 (0,0)) :: (some b59,.cells ((Der.ce t54 t54_3 t54_5 t54_6)) 27 (0,0)) :: (some b58,.cells ((Der.ce t50 t50_3 t50_5 t50_6)) 27 (0,0)) :: (Value.ownBlock z_o46_143_v,.cells z_o46_143_c 5 (0,0)) :: (some b1,.cells (#[.int .i64 (Der.kind a4_0),.bool (Der.flag a4_0),.int .i64 (Der.num a4_0),a4_0_3,str (Der.text a4_0),a4_0_5,a4_0_6,.int .i64 (Der.kind a4_1),.bool (Der.flag a4_1),.int .i64 (Der.num a4_1),a4_1_3,str (Der.text a4_1),a4_1_5,a4_1_6]) 56 (0,0)) :: J325)) hl242.2.2.2 hE322 rfl (fun _ => rfl) rfl (by decide) rfl (fun i x hx => by match i,hx with | 0,hx => cases hx; exact (Der.cl (t:=a4_0) (IntRow.mono hr_a4_0_3 (((((((hx53.trans hx57).trans hx68).trans hx76).trans hx246).trans hx255).trans hx303).trans hx322)) (IntRow.mono hr_a4_0_5 (((((((hx53.trans hx57).trans hx68).trans hx76).trans hx246).trans hx255).trans hx303).trans hx322)) (RowS.mono hr_a4_0_6 (((((((hx53.trans hx57).trans hx68).trans hx76).trans hx246).trans hx255).trans hx303).trans hx322))) | k + 1,hx => simp at hx) (i:=48) rfl (Wn.yes c312 rfl rfl rfl rfl) rfl rfl rfl (f_buildS (n:=1) (vs:=[(0,.agg (Der.ce a4_0 a4_0_3 a4_0_5 a4_0_6))]) elem25 rfl rfl (by kernel_rfl) rfl (args_val2 rfl)) ?_
             intro v325 M325 J325 hE325 hx325 hr_v325
             show DL _ _ _ _ _ _ _ _ _ _ _ _ ((some b77,.cells ((Der.ce t73 t73_3 t73_5 t73_6)) 27 (0,0)) :: (Value.ownBlock s72_v,.cells c241 27 (0,0)) :: (some b69,.cells ((Der.ce t65 t65_3 t65_5 t65_6)) 27 (0,0)) :: (Value.ownBlock z_o61_223_v,.cells z_o61_223_c 50 (0,0)) :: (some b59,.cells ((Der.ce t54 t54_3 t54_5 t54_6)) 27 (0,0)) :: (some b58,.cells ((Der.ce t50 t50_3 t50_5 t50_6)) 27 (0,0)) :: (Value.ownBlock z_o46_143_v,.cells z_o46_143_c 5 (0,0)) :: (some b1,.cells (#[.int .i64 (Der.kind a4_0),.bool (Der.flag a4_0),.int .i64 (Der.num a4_0),a4_0_3,str (Der.text a4_0),a4_0_5,a4_0_6,.int .i64 (Der.kind a4_1),.bool (Der.flag a4_1),.int .i64 (Der.num a4_1),a4_1_3,str (Der.text a4_1),a4_1_5,a4_1_6]) 56 (0,0)) :: J325)
             refine DL.pure (v:=.agg #[.int .i64 8,.bool false,.int .i64 a5,(.slice none 0 0),str ([] : List UInt8),(.slice none 0 0),v325]) rfl (Wn.yes c312 rfl rfl rfl rfl) rfl rfl rfl (p_build (vs:=[(0,.int .i64 8),(2,.int .i64 a5),(6,v325)]) (fun w => by obtain ⟨_,_,e_⟩:=RowS.sl hr_v325; subst e_; kernel_rfl) rfl rfl) ?_
             obtain ⟨t326,h327,h328⟩:=bind_some h321
             refine DL.quiet (v:=.bool t326) rfl (Wn.yes c312 rfl rfl rfl rfl) rfl rfl rfl (f_callR rfl rfl (args_val (vs:=[.agg (Der.ce t319 t319_3 t319_5 t319_6),.agg #[.int .i64 8,.bool false,.int .i64 a5,(.slice none 0 0),str ([] : List UInt8),(.slice none 0 0),v325]]) rfl) (fun w => enter18 _ w) (fun w hc => ref13_Same.val h327 (M:=M325) w (hE325.extJ (A:=[(some b77,.cells ((Der.ce t73 t73_3 t73_5 t73_6)) 27 (0,0)),(Value.ownBlock s72_v,.cells c241 27 (0,0)),(some b69,.cells ((Der.ce t65 t65_3 t65_5 t65_6)) 27 (0,0)),(Value.ownBlock z_o61_223_v,.cells z_o61_223_c 50 (0,0)),(some b59,.cells ((Der.ce t54 t54_3 t54_5 t54_6)) 27 (0,0)),(some b58,.cells ((Der.ce t50 t50_3 t50_5 t50_6)) 27 (0,0)),(Value.ownBlock z_o46_143_v,.cells z_o46_143_c 5 (0,0)),(some b1,.cells (#[.int .i64 (Der.kind a4_0),.bool (Der.flag a4_0),.int .i64 (Der.num a4_0),a4_0_3,str (Der.text a4_0),a4_0_5,a4_0_6,.int .i64 (Der.kind a4_1),.bool (Der.flag a4_1),.int .i64 (Der.num a4_1),a4_1_3,str (Der.text a4_1),a4_1_5,a4_1_6]) 56 (0,0))]) hc rfl) (IntRow.mono hr_t319_3 hx325) (IntRow.mono hr_t319_5 hx325) (RowS.mono hr_t319_6 hx325) (IntRow.nil .u8 M325) (IntRow.nil .u64 M325) hr_v325)) ?_
             refine DL.pu 147 (.bool t326) rfl (p_pick_t c312 rfl rfl rfl) ?_
             obtain rfl:=Option.some.inj h328
             exact DL.weak (J316 _ _ hE325 (hx322.trans hx325)) (Sub.cons rfl (Sub.cons rfl (Sub.nil _)))
            ·
             replace c312:=Bool.eq_false_iff.mpr c312
             have h329:=ite_false c312 h314
             refine DL.not (i:=41) rfl (Wn.no c312 rfl rfl rfl rfl) rfl rfl ?_
             refine DL.not (i:=42) rfl (Wn.no c312 rfl rfl rfl rfl) rfl rfl ?_
             refine DL.not (i:=43) rfl (Wn.no c312 rfl rfl rfl rfl) rfl rfl ?_
             refine DL.not (i:=45) rfl (Wn.no c312 rfl rfl rfl rfl) rfl rfl ?_
             refine DL.not (i:=46) rfl (Wn.no c312 rfl rfl rfl rfl) rfl rfl ?_
             refine DL.not (i:=47) rfl (Wn.no c312 rfl rfl rfl rfl) rfl rfl ?_
             refine DL.not (i:=44) rfl (Wn.no c312 rfl rfl rfl rfl) rfl rfl ?_
             refine DL.not (i:=48) rfl (Wn.no c312 rfl rfl rfl rfl) rfl rfl ?_
             refine DL.not (i:=49) rfl (Wn.no c312 rfl rfl rfl rfl) rfl rfl ?_
             refine DL.not (i:=50) rfl (Wn.no c312 rfl rfl rfl rfl) rfl rfl ?_
             refine DL.pu 147 (.bool false) rfl (p_pick_f c312 rfl rfl rfl) ?_
             obtain rfl:=Option.some.inj h329
             exact DL.weak (J316 _ _ hE303 (Ext.refl _)) (Sub.cons rfl (Sub.cons rfl (Sub.nil _)))
          ·
           by_cases c298 : q288 = true
           ·
            have h304:=ite_true c298 h300
            refine DL.look (v:=.agg (Der.ce t73 t73_3 t73_5 t73_6)) (x:=0) (b:=b77) (i:=31) rfl (Wn.yes c298 rfl rfl rfl rfl) rfl rfl rfl rfl rfl (List.mem_of_getElem? (i:=0) rfl) (b_loadA ty_a27 ty_s27 rfl rfl rfl) ?_
            refine DL.pure (v:=ptr b1 0) rfl (Wn.yes c298 rfl rfl rfl rfl) rfl rfl rfl (p_indexAddr (i:=0) ty_u56 ty_s27 (by decide) (by decide) rfl rfl rfl) ?_
            refine DL.look (v:=.agg (Der.ce a4_0 a4_0_3 a4_0_5 a4_0_6)) (x:=7) (b:=b1) (i:=33) rfl (Wn.yes c298 rfl rfl rfl rfl) rfl rfl rfl rfl rfl (List.mem_of_getElem? (i:=7) rfl) (b_loadSubA (vs:=[.int .i64 (Der.kind a4_0),.bool (Der.flag a4_0),.int .i64 (Der.num a4_0),a4_0_3,str (Der.text a4_0),a4_0_5,a4_0_6]) (off:=0) ty_a27 ty_s27 rfl rfl rfl rfl) ?_
            refine DL.pure (v:=ptr b1 7) rfl (Wn.yes c298 rfl rfl rfl rfl) rfl rfl rfl (p_indexAddr (i:=1) ty_u56 ty_s27 (by decide) (by decide) rfl rfl rfl) ?_
            refine DL.look (v:=.agg (Der.ce a4_1 a4_1_3 a4_1_5 a4_1_6)) (x:=7) (b:=b1) (i:=35) rfl (Wn.yes c298 rfl rfl rfl rfl) rfl rfl rfl rfl rfl (List.mem_of_getElem? (i:=7) rfl) (b_loadSubA (vs:=[.int .i64 (Der.kind a4_1),.bool (Der.flag a4_1),.int .i64 (Der.num a4_1),a4_1_3,str (Der.text a4_1),a4_1_5,a4_1_6]) (off:=7) ty_a27 ty_s27 rfl rfl rfl rfl) ?_
            refine DL.newRowSA (s:=ShDer) (zs:=[a4_0,a4_1]) (cells:=[.int .i64 (Der.kind a4_0),.bool (Der.flag a4_0),.int .i64 (Der.num a4_0),a4_0_3,str (Der.text a4_0),a4_0_5,a4_0_6,.int .i64 (Der.kind a4_1),.bool (Der.flag a4_1),.int .i64 (Der.num a4_1),a4_1_3,str (Der.text a4_1),a4_1_5,a4_1_6]) (n:=2) (A:=[(some b77,.cells ((Der.ce t73 t73_3 t73_5 t73_6)) 27 (0,0)),(Value.ownBlock s72_v,.cells c241 27 (0,0)),(some b69,.cells ((Der.ce t65 t65_3 t65_5 t65_6)) 27 (0,0)),(Value.ownBlock z_o61_223_v,.cells z_o61_223_c 50 (0,0)),(some b59,.cells ((Der.ce t54 t54_3 t54_5 t54_6)) 27 (0,0)),(some b58,.cells ((Der.ce t50 t50_3 t50_5 t50_6)) 27 (0,0)),(Value.ownBlock z_o46_143_v,.cells z_o46_143_c 5 (0,0)),(some b1,.cells (#[.int .i64 (Der.kind a4_0),.bool (Der.flag a4_0),.int .i64 (Der.num a4_0),a4_0_3,str (Der.text a4_0),a4_0_5,a4_0_6,.int .i64 (Der.kind a4_1),.bool (Der.flag a4_1),.int .i64 (Der.num a4_1),a4_1_3,str (Der.text a4_1),a4_1_5,a4_1_6]) 56 (0,0))]) (J:=J255) (fun J307 => ((some b77,.cells ((Der.ce t73 t73_3 t73_5 t73_6)) 27 (0,0)) :: (Value.ownBlock s72_v,.cells c241 27 (0,0)) :: (some b69,.cells ((Der.ce t65 t65_3 t65_5 t65_6)) 27 (0,0)) :: (Value.ownBlock z_o61_223_v,.cells z_o61_223_c 50 (0,0)) :: (some b59,.cells ((Der.ce t54 t54_3 t54_5 t54_6)) 27 (0,0)) :: (some b58,.cells ((Der.ce t50 t50_3 t50_5 t50_6)) 27 (0,0)) :: (Value.ownBlock z_o46_143_v,.cells z_o46_143_c 5 (0,0)) :: (some b1,.cells (#[.int .i64 (Der.kind a4_0),.bool (Der.flag a4_0),.int .i64 (Der.num a4_0),a4_0_3,str (Der.text a4_0),a4_0_5,a4_0_6,.int .i64 (Der.kind a4_1),.bool (Der.flag a4_1),.int .i64 (Der.num a4_1),a4_1_3,str (Der.text a4_1),a4_1_5,a4_1_6]) 56 (0,0)) :: J307)) hl242.2.2.2 hE255 rfl (fun _ => rfl) rfl (by decide) rfl (fun i x hx => by match i,hx with | 0,hx => cases hx; exact (Der.cl (t:=a4_0) (IntRow.mono hr_a4_0_3 (((((hx53.trans hx57).trans hx68).trans hx76).trans hx246).trans hx255)) (IntRow.mono hr_a4_0_5 (((((hx53.trans hx57).trans hx68).trans hx76).trans hx246).trans hx255)) (RowS.mono hr_a4_0_6 (((((hx53.trans hx57).trans hx68).trans hx76).trans hx246).trans hx255))) | 1,hx => cases hx; exact (Der.cl (t:=a4_1) (IntRow.mono hr_a4_1_3 (((((hx53.trans hx57).trans hx68).trans hx76).trans hx246).trans hx255)) (IntRow.mono hr_a4_1_5 (((((hx53.trans hx57).trans hx68).trans hx76).trans hx246).trans hx255)) (RowS.mono hr_a4_1_6 (((((hx53.trans hx57).trans hx68).trans hx76).trans hx246).trans hx255))) | k + 2,hx => simp at hx) (i:=36) rfl (Wn.yes c298 rfl rfl rfl rfl) rfl rfl rfl (f_buildS (n:=2) (vs:=[(0,.agg (Der.ce a4_0 a4_0_3 a4_0_5 a4_0_6)),(1,.agg (Der.ce a4_1 a4_1_3 a4_1_5 a4_1_6))]) elem25 rfl rfl (by kernel_rfl) rfl (args_val2 rfl)) ?_
            intro v307 M307 J307 hE307 hx307 hr_v307
            show DL _ _ _ _ _ _ _ _ _ _ _ _ ((some b77,.cells ((Der.ce t73 t73_3 t73_5 t73_6)) 27 (0,0)) :: (Value.ownBlock s72_v,.cells c241 27 (0,0)) :: (some b69,.cells ((Der.ce t65 t65_3 t65_5 t65_6)) 27 (0,0)) :: (Value.ownBlock z_o61_223_v,.cells z_o61_223_c 50 (0,0)) :: (some b59,.cells ((Der.ce t54 t54_3 t54_5 t54_6)) 27 (0,0)) :: (some b58,.cells ((Der.ce t50 t50_3 t50_5 t50_6)) 27 (0,0)) :: (Value.ownBlock z_o46_143_v,.cells z_o46_143_c 5 (0,0)) :: (some b1,.cells (#[.int .i64 (Der.kind a4_0),.bool (Der.flag a4_0),.int .i64 (Der.num a4_0),a4_0_3,str (Der.text a4_0),a4_0_5,a4_0_6,.int .i64 (Der.kind a4_1),.bool (Der.flag a4_1),.int .i64 (Der.num a4_1),a4_1_3,str (Der.text a4_1),a4_1_5,a4_1_6]) 56 (0,0)) :: J307)
            refine DL.pure (v:=.agg #[.int .i64 7,.bool false,.int .i64 0,(.slice none 0 0),str ([] : List UInt8),(.slice none 0 0),v307]) rfl (Wn.yes c298 rfl rfl rfl rfl) rfl rfl rfl (p_build (vs:=[(0,.int .i64 7),(6,v307)]) (fun w => by obtain ⟨_,_,e_⟩:=RowS.sl hr_v307; subst e_; kernel_rfl) rfl rfl) ?_
            obtain ⟨t308,h309,h310⟩:=bind_some h304
            refine DL.quiet (v:=.bool t308) rfl (Wn.yes c298 rfl rfl rfl rfl) rfl rfl rfl (f_callR rfl rfl (args_val (vs:=[.agg (Der.ce t73 t73_3 t73_5 t73_6),.agg #[.int .i64 7,.bool false,.int .i64 0,(.slice none 0 0),str ([] : List UInt8),(.slice none 0 0),v307]]) rfl) (fun w => enter18 _ w) (fun w hc => ref13_Same.val h309 (M:=M307) w (hE307.extJ (A:=[(some b77,.cells ((Der.ce t73 t73_3 t73_5 t73_6)) 27 (0,0)),(Value.ownBlock s72_v,.cells c241 27 (0,0)),(some b69,.cells ((Der.ce t65 t65_3 t65_5 t65_6)) 27 (0,0)),(Value.ownBlock z_o61_223_v,.cells z_o61_223_c 50 (0,0)),(some b59,.cells ((Der.ce t54 t54_3 t54_5 t54_6)) 27 (0,0)),(some b58,.cells ((Der.ce t50 t50_3 t50_5 t50_6)) 27 (0,0)),(Value.ownBlock z_o46_143_v,.cells z_o46_143_c 5 (0,0)),(some b1,.cells (#[.int .i64 (Der.kind a4_0),.bool (Der.flag a4_0),.int .i64 (Der.num a4_0),a4_0_3,str (Der.text a4_0),a4_0_5,a4_0_6,.int .i64 (Der.kind a4_1),.bool (Der.flag a4_1),.int .i64 (Der.num a4_1),a4_1_3,str (Der.text a4_1),a4_1_5,a4_1_6]) 56 (0,0))]) hc rfl) (IntRow.mono hr_t73_3 ((hx246.trans hx255).trans hx307)) (IntRow.mono hr_t73_5 ((hx246.trans hx255).trans hx307)) (RowS.mono hr_t73_6 ((hx246.trans hx255).trans hx307)) (IntRow.nil .u8 M307) (IntRow.nil .u64 M307) hr_v307)) ?_
            refine DL.pu 135 (.bool t308) rfl (p_pick_t c298 rfl rfl rfl) ?_
            obtain rfl:=Option.some.inj h310
            exact DL.weak (J302 _ _ hE307 hx307) (Sub.cons rfl (Sub.cons rfl (Sub.cons rfl (Sub.nil _))))
           ·
            replace c298:=Bool.eq_false_iff.mpr c298
            have h311:=ite_false c298 h300
            refine DL.not (i:=31) rfl (Wn.no c298 rfl rfl rfl rfl) rfl rfl ?_
            refine DL.not (i:=32) rfl (Wn.no c298 rfl rfl rfl rfl) rfl rfl ?_
            refine DL.not (i:=33) rfl (Wn.no c298 rfl rfl rfl rfl) rfl rfl ?_
            refine DL.not (i:=34) rfl (Wn.no c298 rfl rfl rfl rfl) rfl rfl ?_
            refine DL.not (i:=35) rfl (Wn.no c298 rfl rfl rfl rfl) rfl rfl ?_
            refine DL.not (i:=36) rfl (Wn.no c298 rfl rfl rfl rfl) rfl rfl ?_
            refine DL.not (i:=37) rfl (Wn.no c298 rfl rfl rfl rfl) rfl rfl ?_
            refine DL.not (i:=38) rfl (Wn.no c298 rfl rfl rfl rfl) rfl rfl ?_
            refine DL.pu 135 (.bool false) rfl (p_pick_f c298 rfl rfl rfl) ?_
            obtain rfl:=Option.some.inj h311
            exact DL.weak (J302 _ _ hE255 (Ext.refl _)) (Sub.cons rfl (Sub.cons rfl (Sub.cons rfl (Sub.nil _))))
         ·
          by_cases c292 : q277 = true
          ·
           have h293:=ite_true c292 h289
           refine DL.look (v:=.agg (Der.ce t65 t65_3 t65_5 t65_6)) (x:=2) (b:=b69) (i:=25) rfl (Wn.yes c292 rfl rfl rfl rfl) rfl rfl rfl rfl rfl (List.mem_of_getElem? (i:=2) rfl) (b_loadA ty_a27 ty_s27 rfl rfl rfl) ?_
           refine DL.pure (v:=a3_v) rfl (Wn.yes c292 rfl rfl rfl rfl) rfl rfl rfl (p_move rfl rfl) ?_
           refine DL.pure (v:=.agg #[.int .i64 5,.bool false,.int .i64 0,(.slice none 0 0),str ([] : List UInt8),a3_v,(.slice none 0 0)]) rfl (Wn.yes c292 rfl rfl rfl rfl) rfl rfl rfl (p_build (vs:=[(0,.int .i64 5),(5,a3_v)]) (fun w => by obtain ⟨_,_,e_⟩:=RowV.sl (IntRow.mono hr_a3 (((((hx53.trans hx57).trans hx68).trans hx76).trans hx246).trans hx255)); subst e_; kernel_rfl) rfl rfl) ?_
           obtain ⟨t294,h295,h296⟩:=bind_some h293
           refine DL.quiet (v:=.bool t294) rfl (Wn.yes c292 rfl rfl rfl rfl) rfl rfl rfl (f_callR rfl rfl (args_val (vs:=[.agg (Der.ce t65 t65_3 t65_5 t65_6),.agg #[.int .i64 5,.bool false,.int .i64 0,(.slice none 0 0),str ([] : List UInt8),a3_v,(.slice none 0 0)]]) rfl) (fun w => enter18 _ w) (fun w hc => ref13_Same.val h295 (M:=M255) w (hE255.extJ (A:=[(some b77,.cells ((Der.ce t73 t73_3 t73_5 t73_6)) 27 (0,0)),(Value.ownBlock s72_v,.cells c241 27 (0,0)),(some b69,.cells ((Der.ce t65 t65_3 t65_5 t65_6)) 27 (0,0)),(Value.ownBlock z_o61_223_v,.cells z_o61_223_c 50 (0,0)),(some b59,.cells ((Der.ce t54 t54_3 t54_5 t54_6)) 27 (0,0)),(some b58,.cells ((Der.ce t50 t50_3 t50_5 t50_6)) 27 (0,0)),(Value.ownBlock z_o46_143_v,.cells z_o46_143_c 5 (0,0)),(some b1,.cells (#[.int .i64 (Der.kind a4_0),.bool (Der.flag a4_0),.int .i64 (Der.num a4_0),a4_0_3,str (Der.text a4_0),a4_0_5,a4_0_6,.int .i64 (Der.kind a4_1),.bool (Der.flag a4_1),.int .i64 (Der.num a4_1),a4_1_3,str (Der.text a4_1),a4_1_5,a4_1_6]) 56 (0,0))]) hc rfl) (IntRow.mono hr_t65_3 ((hx76.trans hx246).trans hx255)) (IntRow.mono hr_t65_5 ((hx76.trans hx246).trans hx255)) (RowS.mono hr_t65_6 ((hx76.trans hx246).trans hx255)) (IntRow.nil .u8 M255) (IntRow.mono hr_a3 (((((hx53.trans hx57).trans hx68).trans hx76).trans hx246).trans hx255)) (RowS.nil ShDer M255))) ?_
           refine DL.pu 125 (.bool t294) rfl (p_pick_t c292 rfl rfl rfl) ?_
           obtain rfl:=Option.some.inj h296
           exact DL.weak J291 (Sub.cons rfl (Sub.cons rfl (Sub.cons rfl (Sub.cons rfl (Sub.nil _)))))
          ·
           replace c292:=Bool.eq_false_iff.mpr c292
           have h297:=ite_false c292 h289
           refine DL.not (i:=25) rfl (Wn.no c292 rfl rfl rfl rfl) rfl rfl ?_
           refine DL.not (i:=26) rfl (Wn.no c292 rfl rfl rfl rfl) rfl rfl ?_
           refine DL.not (i:=27) rfl (Wn.no c292 rfl rfl rfl rfl) rfl rfl ?_
           refine DL.not (i:=28) rfl (Wn.no c292 rfl rfl rfl rfl) rfl rfl ?_
           refine DL.pu 125 (.bool false) rfl (p_pick_f c292 rfl rfl rfl) ?_
           obtain rfl:=Option.some.inj h297
           exact DL.weak J291 (Sub.cons rfl (Sub.cons rfl (Sub.cons rfl (Sub.cons rfl (Sub.nil _)))))
        ·
         by_cases c281 : q266 = true
         ·
          have h282:=ite_true c281 h278
          refine DL.look (v:=.agg (Der.ce t54 t54_3 t54_5 t54_6)) (x:=4) (b:=b59) (i:=19) rfl (Wn.yes c281 rfl rfl rfl rfl) rfl rfl rfl rfl rfl (List.mem_of_getElem? (i:=4) rfl) (b_loadA ty_a27 ty_s27 rfl rfl rfl) ?_
          refine DL.pure (v:=a2_v) rfl (Wn.yes c281 rfl rfl rfl rfl) rfl rfl rfl (p_move rfl rfl) ?_
          refine DL.pure (v:=.agg #[.int .i64 3,.bool false,.int .i64 0,a2_v,str ([] : List UInt8),(.slice none 0 0),(.slice none 0 0)]) rfl (Wn.yes c281 rfl rfl rfl rfl) rfl rfl rfl (p_build (vs:=[(0,.int .i64 3),(3,a2_v)]) (fun w => by obtain ⟨_,_,e_⟩:=RowV.sl (IntRow.mono hr_a2 (((((hx53.trans hx57).trans hx68).trans hx76).trans hx246).trans hx255)); subst e_; kernel_rfl) rfl rfl) ?_
          obtain ⟨t283,h284,h285⟩:=bind_some h282
          refine DL.quiet (v:=.bool t283) rfl (Wn.yes c281 rfl rfl rfl rfl) rfl rfl rfl (f_callR rfl rfl (args_val (vs:=[.agg (Der.ce t54 t54_3 t54_5 t54_6),.agg #[.int .i64 3,.bool false,.int .i64 0,a2_v,str ([] : List UInt8),(.slice none 0 0),(.slice none 0 0)]]) rfl) (fun w => enter18 _ w) (fun w hc => ref13_Same.val h284 (M:=M255) w (hE255.extJ (A:=[(some b77,.cells ((Der.ce t73 t73_3 t73_5 t73_6)) 27 (0,0)),(Value.ownBlock s72_v,.cells c241 27 (0,0)),(some b69,.cells ((Der.ce t65 t65_3 t65_5 t65_6)) 27 (0,0)),(Value.ownBlock z_o61_223_v,.cells z_o61_223_c 50 (0,0)),(some b59,.cells ((Der.ce t54 t54_3 t54_5 t54_6)) 27 (0,0)),(some b58,.cells ((Der.ce t50 t50_3 t50_5 t50_6)) 27 (0,0)),(Value.ownBlock z_o46_143_v,.cells z_o46_143_c 5 (0,0)),(some b1,.cells (#[.int .i64 (Der.kind a4_0),.bool (Der.flag a4_0),.int .i64 (Der.num a4_0),a4_0_3,str (Der.text a4_0),a4_0_5,a4_0_6,.int .i64 (Der.kind a4_1),.bool (Der.flag a4_1),.int .i64 (Der.num a4_1),a4_1_3,str (Der.text a4_1),a4_1_5,a4_1_6]) 56 (0,0))]) hc rfl) (IntRow.mono hr_t54_3 (((hx68.trans hx76).trans hx246).trans hx255)) (IntRow.mono hr_t54_5 (((hx68.trans hx76).trans hx246).trans hx255)) (RowS.mono hr_t54_6 (((hx68.trans hx76).trans hx246).trans hx255)) (IntRow.mono hr_a2 (((((hx53.trans hx57).trans hx68).trans hx76).trans hx246).trans hx255)) (IntRow.nil .u64 M255) (RowS.nil ShDer M255))) ?_
          refine DL.pu 119 (.bool t283) rfl (p_pick_t c281 rfl rfl rfl) ?_
          obtain rfl:=Option.some.inj h285
          exact DL.weak J280 (Sub.cons rfl (Sub.cons rfl (Sub.cons rfl (Sub.cons rfl (Sub.cons rfl (Sub.cons rfl (Sub.nil _)))))))
         ·
          replace c281:=Bool.eq_false_iff.mpr c281
          have h286:=ite_false c281 h278
          refine DL.not (i:=19) rfl (Wn.no c281 rfl rfl rfl rfl) rfl rfl ?_
          refine DL.not (i:=20) rfl (Wn.no c281 rfl rfl rfl rfl) rfl rfl ?_
          refine DL.not (i:=21) rfl (Wn.no c281 rfl rfl rfl rfl) rfl rfl ?_
          refine DL.not (i:=22) rfl (Wn.no c281 rfl rfl rfl rfl) rfl rfl ?_
          refine DL.pu 119 (.bool false) rfl (p_pick_f c281 rfl rfl rfl) ?_
          obtain rfl:=Option.some.inj h286
          exact DL.weak J280 (Sub.cons rfl (Sub.cons rfl (Sub.cons rfl (Sub.cons rfl (Sub.cons rfl (Sub.cons rfl (Sub.nil _)))))))
       ·
        by_cases c270 : q251 = true
        ·
         have h271:=ite_true c270 h267
         refine DL.look (v:=.agg (Der.ce t50 t50_3 t50_5 t50_6)) (x:=5) (b:=b58) (i:=13) rfl (Wn.yes c270 rfl rfl rfl rfl) rfl rfl rfl rfl rfl (List.mem_of_getElem? (i:=5) rfl) (b_loadA ty_a27 ty_s27 rfl rfl rfl) ?_
         refine DL.pure (v:=a2_v) rfl (Wn.yes c270 rfl rfl rfl rfl) rfl rfl rfl (p_move rfl rfl) ?_
         refine DL.pure (v:=.agg #[.int .i64 4,.bool false,.int .i64 0,a2_v,str ([] : List UInt8),(.slice none 0 0),(.slice none 0 0)]) rfl (Wn.yes c270 rfl rfl rfl rfl) rfl rfl rfl (p_build (vs:=[(0,.int .i64 4),(3,a2_v)]) (fun w => by obtain ⟨_,_,e_⟩:=RowV.sl (IntRow.mono hr_a2 (((((hx53.trans hx57).trans hx68).trans hx76).trans hx246).trans hx255)); subst e_; kernel_rfl) rfl rfl) ?_
         obtain ⟨t272,h273,h274⟩:=bind_some h271
         refine DL.quiet (v:=.bool t272) rfl (Wn.yes c270 rfl rfl rfl rfl) rfl rfl rfl (f_callR rfl rfl (args_val (vs:=[.agg (Der.ce t50 t50_3 t50_5 t50_6),.agg #[.int .i64 4,.bool false,.int .i64 0,a2_v,str ([] : List UInt8),(.slice none 0 0),(.slice none 0 0)]]) rfl) (fun w => enter18 _ w) (fun w hc => ref13_Same.val h273 (M:=M255) w (hE255.extJ (A:=[(some b77,.cells ((Der.ce t73 t73_3 t73_5 t73_6)) 27 (0,0)),(Value.ownBlock s72_v,.cells c241 27 (0,0)),(some b69,.cells ((Der.ce t65 t65_3 t65_5 t65_6)) 27 (0,0)),(Value.ownBlock z_o61_223_v,.cells z_o61_223_c 50 (0,0)),(some b59,.cells ((Der.ce t54 t54_3 t54_5 t54_6)) 27 (0,0)),(some b58,.cells ((Der.ce t50 t50_3 t50_5 t50_6)) 27 (0,0)),(Value.ownBlock z_o46_143_v,.cells z_o46_143_c 5 (0,0)),(some b1,.cells (#[.int .i64 (Der.kind a4_0),.bool (Der.flag a4_0),.int .i64 (Der.num a4_0),a4_0_3,str (Der.text a4_0),a4_0_5,a4_0_6,.int .i64 (Der.kind a4_1),.bool (Der.flag a4_1),.int .i64 (Der.num a4_1),a4_1_3,str (Der.text a4_1),a4_1_5,a4_1_6]) 56 (0,0))]) hc rfl) (IntRow.mono hr_t50_3 ((((hx57.trans hx68).trans hx76).trans hx246).trans hx255)) (IntRow.mono hr_t50_5 ((((hx57.trans hx68).trans hx76).trans hx246).trans hx255)) (RowS.mono hr_t50_6 ((((hx57.trans hx68).trans hx76).trans hx246).trans hx255)) (IntRow.mono hr_a2 (((((hx53.trans hx57).trans hx68).trans hx76).trans hx246).trans hx255)) (IntRow.nil .u64 M255) (RowS.nil ShDer M255))) ?_
         refine DL.pu 113 (.bool t272) rfl (p_pick_t c270 rfl rfl rfl) ?_
         obtain rfl:=Option.some.inj h274
         exact DL.weak J269 (Sub.cons rfl (Sub.cons rfl (Sub.cons rfl (Sub.cons rfl (Sub.cons rfl (Sub.cons rfl (Sub.cons rfl (Sub.cons rfl (Sub.nil _)))))))))
        ·
         replace c270:=Bool.eq_false_iff.mpr c270
         have h275:=ite_false c270 h267
         refine DL.not (i:=13) rfl (Wn.no c270 rfl rfl rfl rfl) rfl rfl ?_
         refine DL.not (i:=14) rfl (Wn.no c270 rfl rfl rfl rfl) rfl rfl ?_
         refine DL.not (i:=15) rfl (Wn.no c270 rfl rfl rfl rfl) rfl rfl ?_
         refine DL.not (i:=16) rfl (Wn.no c270 rfl rfl rfl rfl) rfl rfl ?_
         refine DL.pu 113 (.bool false) rfl (p_pick_f c270 rfl rfl rfl) ?_
         obtain rfl:=Option.some.inj h275
         exact DL.weak J269 (Sub.cons rfl (Sub.cons rfl (Sub.cons rfl (Sub.cons rfl (Sub.cons rfl (Sub.cons rfl (Sub.cons rfl (Sub.cons rfl (Sub.nil _)))))))))
      ·
       by_cases c250 : t247 = true
       ·
        have h256:=ite_true c250 h252
        refine DL.pure (v:=str a1) rfl (Wn.yes c250 rfl rfl rfl rfl) rfl rfl rfl (p_move rfl rfl) ?_
        obtain ⟨t257,h258,h259⟩:=bind_some h256
        refine DL.callFf (G:=Value × Value × Value) (u:=fun g => .agg (Der.ce t257 (g.1) (g.2.1) (g.2.2))) (Q:=fun g M_ => (IntRow M_ .u8 (g.1) (Der.bytes t257)) ∧ (IntRow M_ .u64 (g.2.1) (Der.arcs t257)) ∧ (RowS ShDer M_ (g.2.2) (Tree.kids t257))) (A:=[(some b77,.cells ((Der.ce t73 t73_3 t73_5 t73_6)) 27 (0,0)),(Value.ownBlock s72_v,.cells c241 27 (0,0)),(some b69,.cells ((Der.ce t65 t65_3 t65_5 t65_6)) 27 (0,0)),(Value.ownBlock z_o61_223_v,.cells z_o61_223_c 50 (0,0)),(some b59,.cells ((Der.ce t54 t54_3 t54_5 t54_6)) 27 (0,0)),(some b58,.cells ((Der.ce t50 t50_3 t50_5 t50_6)) 27 (0,0)),(Value.ownBlock z_o46_143_v,.cells z_o46_143_c 5 (0,0)),(some b1,.cells (#[.int .i64 (Der.kind a4_0),.bool (Der.flag a4_0),.int .i64 (Der.num a4_0),a4_0_3,str (Der.text a4_0),a4_0_5,a4_0_6,.int .i64 (Der.kind a4_1),.bool (Der.flag a4_1),.int .i64 (Der.num a4_1),a4_1_3,str (Der.text a4_1),a4_1_5,a4_1_6]) 56 (0,0))]) (J:=J246) (fun J260 => ((some b77,.cells ((Der.ce t73 t73_3 t73_5 t73_6)) 27 (0,0)) :: (Value.ownBlock s72_v,.cells c241 27 (0,0)) :: (some b69,.cells ((Der.ce t65 t65_3 t65_5 t65_6)) 27 (0,0)) :: (Value.ownBlock z_o61_223_v,.cells z_o61_223_c 50 (0,0)) :: (some b59,.cells ((Der.ce t54 t54_3 t54_5 t54_6)) 27 (0,0)) :: (some b58,.cells ((Der.ce t50 t50_3 t50_5 t50_6)) 27 (0,0)) :: (Value.ownBlock z_o46_143_v,.cells z_o46_143_c 5 (0,0)) :: (some b1,.cells (#[.int .i64 (Der.kind a4_0),.bool (Der.flag a4_0),.int .i64 (Der.num a4_0),a4_0_3,str (Der.text a4_0),a4_0_5,a4_0_6,.int .i64 (Der.kind a4_1),.bool (Der.flag a4_1),.int .i64 (Der.num a4_1),a4_1_3,str (Der.text a4_1),a4_1_5,a4_1_6]) 56 (0,0)) :: J260)) hl242.2.2.2 hE246 rfl (fun _ => rfl) (by simp) (i:=7) rfl (Wn.yes c250 rfl rfl rfl rfl) rfl rfl rfl rfl rfl rfl (args_val (vs:=[str a1]) rfl) (fun w => enter30 _ w) (fun w hc hI => der_Text.ok h258 (M:=M246) w hI ) ?_
        rintro ⟨t257_3,t257_5,t257_6⟩ M260 J260 hE260 hx260 ⟨hr_t257_3,hr_t257_5,hr_t257_6⟩
        show DL _ _ _ _ _ _ _ _ _ _ _ _ ((some b77,.cells ((Der.ce t73 t73_3 t73_5 t73_6)) 27 (0,0)) :: (Value.ownBlock s72_v,.cells c241 27 (0,0)) :: (some b69,.cells ((Der.ce t65 t65_3 t65_5 t65_6)) 27 (0,0)) :: (Value.ownBlock z_o61_223_v,.cells z_o61_223_c 50 (0,0)) :: (some b59,.cells ((Der.ce t54 t54_3 t54_5 t54_6)) 27 (0,0)) :: (some b58,.cells ((Der.ce t50 t50_3 t50_5 t50_6)) 27 (0,0)) :: (Value.ownBlock z_o46_143_v,.cells z_o46_143_c 5 (0,0)) :: (some b1,.cells (#[.int .i64 (Der.kind a4_0),.bool (Der.flag a4_0),.int .i64 (Der.num a4_0),a4_0_3,str (Der.text a4_0),a4_0_5,a4_0_6,.int .i64 (Der.kind a4_1),.bool (Der.flag a4_1),.int .i64 (Der.num a4_1),a4_1_3,str (Der.text a4_1),a4_1_5,a4_1_6]) 56 (0,0)) :: J260)
        refine DL.pure (v:=str a1) rfl (Wn.yes c250 rfl rfl rfl rfl) rfl rfl rfl (p_move rfl rfl) ?_
        refine DL.pure (v:=.agg #[.int .i64 6,.bool false,.int .i64 0,(.slice none 0 0),str a1,(.slice none 0 0),(.slice none 0 0)]) rfl (Wn.yes c250 rfl rfl rfl rfl) rfl rfl rfl (p_build (vs:=[(0,.int .i64 6),(4,str a1)]) (fun w => by kernel_rfl) rfl rfl) ?_
        obtain ⟨t261,h262,h263⟩:=bind_some h259
        refine DL.quiet (v:=.bool t261) rfl (Wn.yes c250 rfl rfl rfl rfl) rfl rfl rfl (f_callR rfl rfl (args_val (vs:=[.agg (Der.ce t257 t257_3 t257_5 t257_6),.agg #[.int .i64 6,.bool false,.int .i64 0,(.slice none 0 0),str a1,(.slice none 0 0),(.slice none 0 0)]]) rfl) (fun w => enter18 _ w) (fun w hc => ref13_Same.val h262 (M:=M260) w (hE260.extJ (A:=[(some b77,.cells ((Der.ce t73 t73_3 t73_5 t73_6)) 27 (0,0)),(Value.ownBlock s72_v,.cells c241 27 (0,0)),(some b69,.cells ((Der.ce t65 t65_3 t65_5 t65_6)) 27 (0,0)),(Value.ownBlock z_o61_223_v,.cells z_o61_223_c 50 (0,0)),(some b59,.cells ((Der.ce t54 t54_3 t54_5 t54_6)) 27 (0,0)),(some b58,.cells ((Der.ce t50 t50_3 t50_5 t50_6)) 27 (0,0)),(Value.ownBlock z_o46_143_v,.cells z_o46_143_c 5 (0,0)),(some b1,.cells (#[.int .i64 (Der.kind a4_0),.bool (Der.flag a4_0),.int .i64 (Der.num a4_0),a4_0_3,str (Der.text a4_0),a4_0_5,a4_0_6,.int .i64 (Der.kind a4_1),.bool (Der.flag a4_1),.int .i64 (Der.num a4_1),a4_1_3,str (Der.text a4_1),a4_1_5,a4_1_6]) 56 (0,0))]) hc rfl) hr_t257_3 hr_t257_5 hr_t257_6 (IntRow.nil .u8 M260) (IntRow.nil .u64 M260) (RowS.nil ShDer M260))) ?_
        refine DL.pu 107 (.bool t261) rfl (p_pick_t c250 rfl rfl rfl) ?_
        obtain rfl:=Option.some.inj h263
        exact DL.weak (J254 _ _ hE260 hx260) (Sub.cons rfl (Sub.cons rfl (Sub.cons rfl (Sub.cons rfl (Sub.cons rfl (Sub.cons rfl (Sub.cons rfl (Sub.cons rfl (Sub.cons rfl (Sub.nil _))))))))))
       ·
        replace c250:=Bool.eq_false_iff.mpr c250
        have h264:=ite_false c250 h252
        refine DL.not (i:=6) rfl (Wn.no c250 rfl rfl rfl rfl) rfl rfl ?_
        refine DL.not (i:=7) rfl (Wn.no c250 rfl rfl rfl rfl) rfl rfl ?_
        refine DL.not (i:=8) rfl (Wn.no c250 rfl rfl rfl rfl) rfl rfl ?_
        refine DL.not (i:=9) rfl (Wn.no c250 rfl rfl rfl rfl) rfl rfl ?_
        refine DL.not (i:=10) rfl (Wn.no c250 rfl rfl rfl rfl) rfl rfl ?_
        refine DL.pu 107 (.bool false) rfl (p_pick_f c250 rfl rfl rfl) ?_
        obtain rfl:=Option.some.inj h264
        exact DL.weak (J254 _ _ hE246 (Ext.refl _)) (Sub.cons rfl (Sub.cons rfl (Sub.cons rfl (Sub.cons rfl (Sub.cons rfl (Sub.cons rfl (Sub.cons rfl (Sub.cons rfl (Sub.cons rfl (Sub.nil _))))))))))
    ·
     by_cases c34 : q19 = true
     ·
      have h35:=ite_true c34 h31
      refine DL.not (i:=20) rfl (Wn.yes c34 rfl rfl rfl rfl) rfl rfl ?_
      refine DL.not (i:=21) rfl (Wn.yes c34 rfl rfl rfl rfl) rfl rfl ?_
      refine DL.not (i:=22) rfl (Wn.yes c34 rfl rfl rfl rfl) rfl rfl ?_
      refine DL.not (i:=23) rfl (Wn.yes c34 rfl rfl rfl rfl) rfl rfl ?_
      refine DL.pu 46 (.bool true) rfl (p_pick_t c34 rfl rfl rfl) ?_
      obtain rfl:=Option.some.inj h35
      exact DL.weak J33 (Sub.cons rfl (Sub.cons rfl (Sub.cons rfl (Sub.cons rfl (Sub.cons rfl (Sub.cons rfl (Sub.cons rfl (Sub.nil _))))))))
     ·
      replace c34:=Bool.eq_false_iff.mpr c34
      have h36:=ite_false c34 h31
      refine DL.pure (v:=ptr b1 7) rfl (Wn.no c34 rfl rfl rfl rfl) rfl rfl rfl (p_indexAddr (i:=1) ty_u56 ty_s27 (by decide) (by decide) rfl rfl rfl) ?_
      refine DL.quiet (v:=.agg (Der.ce a4_1 a4_1_3 a4_1_5 a4_1_6)) rfl (Wn.no c34 rfl rfl rfl rfl) rfl rfl rfl (f_loadSubA (j:=0) (vs:=[.int .i64 (Der.kind a4_1),.bool (Der.flag a4_1),.int .i64 (Der.num a4_1),a4_1_3,str (Der.text a4_1),a4_1_5,a4_1_6]) (off:=7) ty_a27 ty_s27 rfl rfl rfl rfl rfl) ?_
      obtain ⟨t37,h38,h39⟩:=bind_some h36
      refine DL.quiet (v:=.bool t37) rfl (Wn.no c34 rfl rfl rfl rfl) rfl rfl rfl (f_callR rfl rfl (args_val (vs:=[.agg (Der.ce a4_1 a4_1_3 a4_1_5 a4_1_6)]) rfl) (fun w => enter10 _ w) (fun w hc => law13_few.val h38 (M:=M) w (hE.ext hc) hr_a4_1_3 hr_a4_1_5 hr_a4_1_6)) ?_
      refine DL.pure (v:=.bool (!t37)) rfl (Wn.no c34 rfl rfl rfl rfl) rfl rfl rfl (p_not rfl rfl) ?_
      refine DL.pu 46 (.bool (!t37)) rfl (p_pick_f c34 rfl rfl rfl) ?_
      obtain rfl:=Option.some.inj h39
      exact DL.weak J33 (Sub.cons rfl (Sub.cons rfl (Sub.cons rfl (Sub.cons rfl (Sub.cons rfl (Sub.cons rfl (Sub.cons rfl (Sub.nil _))))))))
   ·
    by_cases c23 : q11 = true
    ·
     have h24:=ite_true c23 h20
     refine DL.not (i:=14) rfl (Wn.yes c23 rfl rfl rfl rfl) rfl rfl ?_
     refine DL.not (i:=15) rfl (Wn.yes c23 rfl rfl rfl rfl) rfl rfl ?_
     refine DL.not (i:=16) rfl (Wn.yes c23 rfl rfl rfl rfl) rfl rfl ?_
     refine DL.not (i:=17) rfl (Wn.yes c23 rfl rfl rfl rfl) rfl rfl ?_
     refine DL.pu 40 (.bool true) rfl (p_pick_t c23 rfl rfl rfl) ?_
     obtain rfl:=Option.some.inj h24
     exact DL.weak J22 (Sub.cons rfl (Sub.cons rfl (Sub.cons rfl (Sub.cons rfl (Sub.cons rfl (Sub.cons rfl (Sub.cons rfl (Sub.nil _))))))))
    ·
     replace c23:=Bool.eq_false_iff.mpr c23
     have h25:=ite_false c23 h20
     refine DL.pure (v:=ptr b1 0) rfl (Wn.no c23 rfl rfl rfl rfl) rfl rfl rfl (p_indexAddr (i:=0) ty_u56 ty_s27 (by decide) (by decide) rfl rfl rfl) ?_
     refine DL.quiet (v:=.agg (Der.ce a4_0 a4_0_3 a4_0_5 a4_0_6)) rfl (Wn.no c23 rfl rfl rfl rfl) rfl rfl rfl (f_loadSubA (j:=0) (vs:=[.int .i64 (Der.kind a4_0),.bool (Der.flag a4_0),.int .i64 (Der.num a4_0),a4_0_3,str (Der.text a4_0),a4_0_5,a4_0_6]) (off:=0) ty_a27 ty_s27 rfl rfl rfl rfl rfl) ?_
     obtain ⟨t26,h27,h28⟩:=bind_some h25
     refine DL.quiet (v:=.bool t26) rfl (Wn.no c23 rfl rfl rfl rfl) rfl rfl rfl (f_callR rfl rfl (args_val (vs:=[.agg (Der.ce a4_0 a4_0_3 a4_0_5 a4_0_6)]) rfl) (fun w => enter10 _ w) (fun w hc => law13_few.val h27 (M:=M) w (hE.ext hc) hr_a4_0_3 hr_a4_0_5 hr_a4_0_6)) ?_
     refine DL.pure (v:=.bool (!t26)) rfl (Wn.no c23 rfl rfl rfl rfl) rfl rfl rfl (p_not rfl rfl) ?_
     refine DL.pu 40 (.bool (!t26)) rfl (p_pick_f c23 rfl rfl rfl) ?_
     obtain rfl:=Option.some.inj h28
     exact DL.weak J22 (Sub.cons rfl (Sub.cons rfl (Sub.cons rfl (Sub.cons rfl (Sub.cons rfl (Sub.cons rfl (Sub.cons rfl (Sub.nil _))))))))
  ·
   by_cases c15 : q3 = true
   ·
    have h16:=ite_true c15 h12
    refine DL.not (i:=9) rfl (Wn.yes c15 rfl rfl rfl rfl) rfl rfl ?_
    refine DL.not (i:=10) rfl (Wn.yes c15 rfl rfl rfl rfl) rfl rfl ?_
    refine DL.not (i:=11) rfl (Wn.yes c15 rfl rfl rfl rfl) rfl rfl ?_
    refine DL.pu 34 (.bool true) rfl (p_pick_t c15 rfl rfl rfl) ?_
    obtain rfl:=Option.some.inj h16
    exact DL.weak J14 (Sub.cons rfl (Sub.cons rfl (Sub.cons rfl (Sub.cons rfl (Sub.cons rfl (Sub.cons rfl (Sub.cons rfl (Sub.nil _))))))))
   ·
    replace c15:=Bool.eq_false_iff.mpr c15
    have h17:=ite_false c15 h12
    refine DL.pure (v:=a3_v) rfl (Wn.no c15 rfl rfl rfl rfl) rfl rfl rfl (p_move rfl rfl) ?_
    refine DL.pure (v:=.int .i64 (a3.length : Int)) rfl (Wn.no c15 rfl rfl rfl rfl) rfl rfl rfl (p_slLen ty_u24 (RowV.sl hr_a3) rfl rfl) ?_
    refine DL.pure (v:=.bool (decide (100 < (a3.length : Int)))) rfl (Wn.no c15 rfl rfl rfl rfl) rfl rfl rfl (p_gtr rfl rfl rfl) ?_
    refine DL.pu 34 (.bool (decide (100 < (a3.length : Int)))) rfl (p_pick_f c15 rfl rfl rfl) ?_
    obtain rfl:=Option.some.inj h17
    exact DL.weak J14 (Sub.cons rfl (Sub.cons rfl (Sub.cons rfl (Sub.cons rfl (Sub.cons rfl (Sub.cons rfl (Sub.cons rfl (Sub.nil _))))))))
 ·
  by_cases c7 : (decide (3000 < (a1.length : Int))) = true
  ·
   have h8:=ite_true c7 h4
   refine DL.not (i:=4) rfl (Wn.yes c7 rfl rfl rfl rfl) rfl rfl ?_
   refine DL.not (i:=5) rfl (Wn.yes c7 rfl rfl rfl rfl) rfl rfl ?_
   refine DL.not (i:=6) rfl (Wn.yes c7 rfl rfl rfl rfl) rfl rfl ?_
   refine DL.pu 29 (.bool true) rfl (p_pick_t c7 rfl rfl rfl) ?_
   obtain rfl:=Option.some.inj h8
   exact DL.weak J6 (Sub.cons rfl (Sub.cons rfl (Sub.cons rfl (Sub.cons rfl (Sub.cons rfl (Sub.cons rfl (Sub.cons rfl (Sub.nil _))))))))
  ·
   replace c7:=Bool.eq_false_iff.mpr c7
   have h9:=ite_false c7 h4
   refine DL.pure (v:=a2_v) rfl (Wn.no c7 rfl rfl rfl rfl) rfl rfl rfl (p_move rfl rfl) ?_
   refine DL.pure (v:=.int .i64 (a2.length : Int)) rfl (Wn.no c7 rfl rfl rfl rfl) rfl rfl rfl (p_slLen ty_u23 (RowV.sl hr_a2) rfl rfl) ?_
   refine DL.pure (v:=.bool (decide (3000 < (a2.length : Int)))) rfl (Wn.no c7 rfl rfl rfl rfl) rfl rfl rfl (p_gtr rfl rfl rfl) ?_
   refine DL.pu 29 (.bool (decide (3000 < (a2.length : Int)))) rfl (p_pick_f c7 rfl rfl rfl) ?_
   obtain rfl:=Option.some.inj h9
   exact DL.weak J6 (Sub.cons rfl (Sub.cons rfl (Sub.cons rfl (Sub.cons rfl (Sub.cons rfl (Sub.cons rfl (Sub.cons rfl (Sub.nil _))))))))
theorem law13_DerMakes.val {a0 : Int} {a1 : List UInt8} {a2 : List Int} {a3 : List Int} {a4_0 : Der} {a4_1 : Der} {a5 : Int} {a2_v : Value} {a3_v : Value} {a4_0_3 : Value} {a4_0_5 : Value} {a4_0_6 : Value} {a4_1_3 : Value} {a4_1_5 : Value} {a4_1_6 : Value} {r : Bool} (h : law13_DerMakes.f a0 a1 a2 a3 a4_0 a4_1 a5 = some r) {M : Mem} (w : World) (hM : Ext M (heapOf w)) (hG : Glob M) (hr_a2 : IntRow M .u8 a2_v a2) (hr_a3 : IntRow M .u64 a3_v a3) (hr_a4_0_3 : IntRow M .u8 a4_0_3 (Der.bytes a4_0)) (hr_a4_0_5 : IntRow M .u64 a4_0_5 (Der.arcs a4_0)) (hr_a4_0_6 : RowS ShDer M a4_0_6 (Tree.kids a4_0)) (hr_a4_1_3 : IntRow M .u8 a4_1_3 (Der.bytes a4_1)) (hr_a4_1_5 : IntRow M .u64 a4_1_5 (Der.arcs a4_1)) (hr_a4_1_6 : RowS ShDer M a4_1_6 (Tree.kids a4_1)) : Calls Tryd.prog 9 #[.int .i64 a0,str a1,a2_v,a3_v,.agg #[.int .i64 (Der.kind a4_0),.bool (Der.flag a4_0),.int .i64 (Der.num a4_0),a4_0_3,str (Der.text a4_0),a4_0_5,a4_0_6,.int .i64 (Der.kind a4_1),.bool (Der.flag a4_1),.int .i64 (Der.num a4_1),a4_1_3,str (Der.text a4_1),a4_1_5,a4_1_6],.int .i64 a5] w fun e w' => e = .returned (.bool r) ∧ Below w.heap.size w w' :=
 calls_value (law13_DerMakes.ok h w hM hG hr_a2 hr_a3 hr_a4_0_3 hr_a4_0_5 hr_a4_0_6 hr_a4_1_3 hr_a4_1_5 hr_a4_1_6)

end Go.Proofs.YtjhknfpociahoaaDoor
