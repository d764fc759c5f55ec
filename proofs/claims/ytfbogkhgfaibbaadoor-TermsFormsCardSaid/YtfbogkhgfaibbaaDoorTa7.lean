import Derived.Test.YtfbogkhgfaibbaaDoorTa6
namespace Go.Proofs.YtfbogkhgfaibbaaDoor
open Go Go.HW Go.RowKit
set_option linter.unusedVariables false
set_option linter.unusedSimpArgs false

/-! ### escutcheon/escutcheonref29.Can: function 26 -/
@[reducible] def ref29_read.Rec (r_ : (List UInt8) → Int → Int → Option (Tm × Int × Int)) : Prop:=∀ {a0 : List UInt8} {a1 : Int} {a2 : Int} {a2_b : Nat} {r_0 : Tm} {r_1 : Int} {r_h : Int},r_ a0 a1 a2 = some (r_0,r_1,r_h) → ∀ {M : Mem} (w : World) (hM : Ext M (heapOf w)) (hX : ∀ b,(some a2_b) = some b → w.heap[b]? = some (.cells (#[.int .i64 a2]) 3 (0,0))) (hXM : ∀ b,(some a2_b) = some b → M b = none),Calls Tryd.prog 50 #[str a0,.int .i64 a1,ptr a2_b 0] w ((PostX (G:=Value) (fun g => .tuple #[.agg (Tm.ce r_0 g),.int .i64 r_1]) (fun g M_ => (RowS ShTm M_ g (Tree.kids r_0))) (fun g => (some a2_b)) (fun g => .cells (#[.int .i64 r_h]) 3 (0,0)) (some a2_b) M w))

/-! ### escutcheon/escutcheonref29.read: function 50 -/
noncomputable def B50 : Code:=bodyOf Tryd.f50
def ref29_read.L0 (a0 : List UInt8) : Nat → Int → Option (Int)
 | 0,_ => none
 | k + 1,x1_5 => (if (decide (x1_5 < (a0.length : Int))) = true then (req (0 ≤ x1_5) (req (x1_5 < (a0.length : Int)) (some (decide (97 ≤ (chr a0 x1_5.toNat)))))) else (some false)).bind fun q85 => (if q85 = true then (req (0 ≤ x1_5) (req (x1_5 < (a0.length : Int)) (some (decide ((chr a0 x1_5.toNat) ≤ 122))))) else (some false)).bind fun q97 => if q97 = true then (ref29_read.L0 a0 k (IntKind.i64.wrap (x1_5 + 1))) else (some x1_5)
set_option maxRecDepth 20000 in
theorem ref29_read.L0_ok (a0 : List UInt8) (a1 : Int) (a2 : Int) (a2_b : Nat) (b1 : Nat) {R : Ending → World → Prop} {w0 : World} {M0 M I : Mem} {K : List Item} (hE : EnvX (some a2_b) w0 M0 M I) :
  ∀ (k : Nat) (x1_5 : Int) (r0_ : Int) (h : ref29_read.L0 a0 k x1_5 = some r0_) (hk : TT Tryd.prog 50 R 153 w0 I K [(0,str a0),(1,.int .i64 r0_),(2,ptr a2_b 0),(6,ptr b1 0),(8,.int .i64 a1)] [(some b1,.cells (#[.int .i64 0,.int .i64 0,(.slice none 0 0)]) 25 (0,0)),(some a2_b,.cells (#[.int .i64 (IntKind.i64.wrap (a2 - 1))]) 3 (0,0))]),
   TT Tryd.prog 50 R 153 w0 I (.code (sub [1,1,1,1,0,0,0] B50) :: .inLoop (sub [1,1,1,1,0,0,0] B50) :: .inBlock 0 :: K) [(0,str a0),(1,.int .i64 x1_5),(2,ptr a2_b 0),(6,ptr b1 0),(8,.int .i64 a1)] [(some b1,.cells (#[.int .i64 0,.int .i64 0,(.slice none 0 0)]) 25 (0,0)),(some a2_b,.cells (#[.int .i64 (IntKind.i64.wrap (a2 - 1))]) 3 (0,0))]:=by
 intro k
 induction k with
 | zero => intro x1_5 r0_ h; simp [ref29_read.L0] at h
 | succ k ih =>
  intro x1_5 r0_ h hk
  unfold ref29_read.L0 at h
  refine TT.seq (x:=sub [1,1,1,1,0,0,0,0] B50) (y:=sub [1,1,1,1,0,0,0,1] B50) ?_
  refine TT.seq (x:=sub [1,1,1,1,0,0,0,0,0] B50) (y:=sub [1,1,1,1,0,0,0,0,1] B50) ?_
  refine TT.rg [0,1,2,3,4,5,6,7,8,9,10,11,12,13,14,15] [kp,kp,kp,kp,kp,kp,kp,kp,kp,kp,kp,kp,kp,kp,kp,kp] rfl rfl ?_
  refine DL.mv 30 (.int .i64 x1_5) rfl rfl rfl ?_
  refine DL.mv 31 (str a0) rfl rfl rfl ?_
  refine DL.pu 32 (.int .i64 (a0.length : Int)) rfl (p_strLen ty_u9 rfl rfl) ?_
  refine DL.pu 33 (.bool (decide (x1_5 < (a0.length : Int)))) rfl (p_lss rfl rfl rfl) ?_
  refine DL.mv 34 (.bool (decide (x1_5 < (a0.length : Int)))) rfl rfl rfl ?_
  obtain ⟨q85,h86,h87⟩:=bind_some h
  refine DL.cut [(0,str a0),(1,.int .i64 x1_5),(2,ptr a2_b 0),(6,ptr b1 0),(8,.int .i64 a1),(39,.bool q85)] [10,11,12,13,14,15] ?_ (fun J88 => ?_)
  ·
   refine DL.mv 40 (.bool q85) rfl rfl rfl ?_
   obtain ⟨q97,h98,h99⟩:=bind_some h87
   refine DL.cut [(0,str a0),(1,.int .i64 x1_5),(2,ptr a2_b 0),(6,ptr b1 0),(8,.int .i64 a1),(45,.bool q97)] [] ?_ (fun J100 => ?_)
   ·
    refine DL.nil ?_
    by_cases c108 : q97 = true
    ·
     have h109:=ite_true c108 h99
     refine TT.cond_true (x:=sub [1,1,1,1,0,0,0,0,1,0] B50) (y:=sub [1,1,1,1,0,0,0,0,1,1] B50) rfl c108 ?_
     refine TT.skip ?_
     refine TT.block (c:=sub [1,1,1,1,0,0,0,1,0] B50) ?_
     refine TT.rg [0,1,2] [kp,kp,kp] rfl rfl ?_
     refine DL.mv 46 (.int .i64 x1_5) rfl rfl rfl ?_
     refine DL.pu 47 (.int .i64 (IntKind.i64.wrap (x1_5 + 1))) rfl (p_add rfl rfl rfl) ?_
     refine DL.pu 1 (.int .i64 (IntKind.i64.wrap (x1_5 + 1))) rfl (p_assign rfl rfl) ?_
     refine DL.nil ?_
     refine TT.inBlock ?_
     refine TT.inLoop ?_
     exact TT.weak (ih (IntKind.i64.wrap (x1_5 + 1)) r0_ h109 hk) (Sub.cons rfl (Sub.cons rfl (Sub.cons rfl (Sub.cons rfl (Sub.cons rfl (Sub.nil _))))))
    ·
     replace c108:=Bool.eq_false_iff.mpr c108
     have h110:=ite_false c108 h99
     refine TT.cond_false (x:=sub [1,1,1,1,0,0,0,0,1,0] B50) (y:=sub [1,1,1,1,0,0,0,0,1,1] B50) rfl c108 ?_
     refine TT.exit rfl ?_
     obtain rfl:=Option.some.inj h110
     exact TT.weak (hk) (Sub.cons rfl (Sub.cons rfl (Sub.cons rfl (Sub.cons rfl (Sub.cons rfl (Sub.nil _))))))
   ·
    by_cases c101 : q85 = true
    ·
     have h102:=ite_true c101 h98
     refine DL.pure (v:=str a0) rfl (Wn.yes c101 rfl rfl rfl rfl) rfl rfl rfl (p_move rfl rfl) ?_
     refine DL.pure (v:=.int .i64 x1_5) rfl (Wn.yes c101 rfl rfl rfl rfl) rfl rfl rfl (p_move rfl rfl) ?_
     obtain ⟨g103,h104⟩:=req_some h102
     obtain ⟨g105,h106⟩:=req_some h104
     refine DL.pure (v:=.int .u8 (chr a0 x1_5.toNat)) rfl (Wn.yes c101 rfl rfl rfl rfl) rfl rfl rfl (p_strIndex ty_u9 g103 g105 rfl rfl rfl) ?_
     refine DL.pure (v:=.bool (decide ((chr a0 x1_5.toNat) ≤ 122))) rfl (Wn.yes c101 rfl rfl rfl rfl) rfl rfl rfl (p_leq rfl rfl rfl) ?_
     refine DL.pu 45 (.bool (decide ((chr a0 x1_5.toNat) ≤ 122))) rfl (p_pick_t c101 rfl rfl rfl) ?_
     obtain rfl:=Option.some.inj h106
     exact DL.weak J100 (Sub.cons rfl (Sub.cons rfl (Sub.cons rfl (Sub.cons rfl (Sub.cons rfl (Sub.cons rfl (Sub.nil _)))))))
    ·
     replace c101:=Bool.eq_false_iff.mpr c101
     have h107:=ite_false c101 h98
     refine DL.not (i:=11) rfl (Wn.no c101 rfl rfl rfl rfl) rfl rfl ?_
     refine DL.not (i:=12) rfl (Wn.no c101 rfl rfl rfl rfl) rfl rfl ?_
     refine DL.not (i:=13) rfl (Wn.no c101 rfl rfl rfl rfl) rfl rfl ?_
     refine DL.not (i:=14) rfl (Wn.no c101 rfl rfl rfl rfl) rfl rfl ?_
     refine DL.pu 45 (.bool false) rfl (p_pick_f c101 rfl rfl rfl) ?_
     obtain rfl:=Option.some.inj h107
     exact DL.weak J100 (Sub.cons rfl (Sub.cons rfl (Sub.cons rfl (Sub.cons rfl (Sub.cons rfl (Sub.cons rfl (Sub.nil _)))))))
  ·
   by_cases c89 : (decide (x1_5 < (a0.length : Int))) = true
   ·
    have h90:=ite_true c89 h86
    refine DL.pure (v:=str a0) rfl (Wn.yes c89 rfl rfl rfl rfl) rfl rfl rfl (p_move rfl rfl) ?_
    refine DL.pure (v:=.int .i64 x1_5) rfl (Wn.yes c89 rfl rfl rfl rfl) rfl rfl rfl (p_move rfl rfl) ?_
    obtain ⟨g91,h92⟩:=req_some h90
    obtain ⟨g93,h94⟩:=req_some h92
    refine DL.pure (v:=.int .u8 (chr a0 x1_5.toNat)) rfl (Wn.yes c89 rfl rfl rfl rfl) rfl rfl rfl (p_strIndex ty_u9 g91 g93 rfl rfl rfl) ?_
    refine DL.pure (v:=.bool (decide (97 ≤ (chr a0 x1_5.toNat)))) rfl (Wn.yes c89 rfl rfl rfl rfl) rfl rfl rfl (p_geq rfl rfl rfl) ?_
    refine DL.pu 39 (.bool (decide (97 ≤ (chr a0 x1_5.toNat)))) rfl (p_pick_t c89 rfl rfl rfl) ?_
    obtain rfl:=Option.some.inj h94
    exact DL.weak J88 (Sub.cons rfl (Sub.cons rfl (Sub.cons rfl (Sub.cons rfl (Sub.cons rfl (Sub.cons rfl (Sub.nil _)))))))
   ·
    replace c89:=Bool.eq_false_iff.mpr c89
    have h95:=ite_false c89 h86
    refine DL.not (i:=5) rfl (Wn.no c89 rfl rfl rfl rfl) rfl rfl ?_
    refine DL.not (i:=6) rfl (Wn.no c89 rfl rfl rfl rfl) rfl rfl ?_
    refine DL.not (i:=7) rfl (Wn.no c89 rfl rfl rfl rfl) rfl rfl ?_
    refine DL.not (i:=8) rfl (Wn.no c89 rfl rfl rfl rfl) rfl rfl ?_
    refine DL.pu 39 (.bool false) rfl (p_pick_f c89 rfl rfl rfl) ?_
    obtain rfl:=Option.some.inj h95
    exact DL.weak J88 (Sub.cons rfl (Sub.cons rfl (Sub.cons rfl (Sub.cons rfl (Sub.cons rfl (Sub.cons rfl (Sub.nil _)))))))

def ref29_read.L1 (a0 : List UInt8) (a1 : Int) (z1_83 : Int) : Nat → Int → Int → Option (Int)
 | 0,_,_ => none
 | k + 1,x10_115,y_116_0 => if (decide (x10_115 ≤ 9)) = true then (req (0 ≤ a1) (req (a1 ≤ z1_83) (req (z1_83 ≤ (a0.length : Int)) (nm ((a0.drop a1.toNat).take (z1_83.toNat - a1.toNat)) fun t207 => (ref29_names.f).bind fun t210 => req (0 ≤ x10_115) (req (x10_115 < (t210.length : Int)) ((if (t207 == (t210.getD x10_115.toNat [])) = true then (some x10_115) else (some y_116_0)).bind fun j_b114_0_220 => ref29_read.L1 a0 a1 z1_83 k (IntKind.i64.wrap (x10_115 + 1)) j_b114_0_220)))))) else (some y_116_0)
set_option maxRecDepth 20000 in
theorem ref29_read.L1_ok (a0 : List UInt8) (a1 : Int) (a2 : Int) (a2_b : Nat) (b1 : Nat) (z1_83 : Int) (b114 : Nat) {R : Ending → World → Prop} {w0 : World} {M0 Mb : Mem} {K : List Item} :
  ∀ (k : Nat) (M I : Mem) (hE : EnvX (some a2_b) w0 M0 M I) (hx : Ext Mb M) (x10_115 : Int) (y_116_0 : Int) (r0_ : Int) (h : ref29_read.L1 a0 a1 z1_83 k x10_115 y_116_0 = some r0_) (hk : ∀ (M' I' : Mem),EnvX (some a2_b) w0 M0 M' I' → Ext Mb M' → TT Tryd.prog 50 R 153 w0 I' K [(0,str a0),(1,.int .i64 z1_83),(2,ptr a2_b 0),(6,ptr b1 0),(9,ptr b114 0)] [(some b114,.cells (#[.int .i64 r0_,.int .i64 0,(.slice none 0 0)]) 25 (0,0)),(some b1,.cells (#[.int .i64 0,.int .i64 0,(.slice none 0 0)]) 25 (0,0)),(some a2_b,.cells (#[.int .i64 (IntKind.i64.wrap (a2 - 1))]) 3 (0,0))]),
   TT Tryd.prog 50 R 153 w0 I (.code (sub [1,1,1,1,1,1,0,1,0,0] B50) :: .inLoop (sub [1,1,1,1,1,1,0,1,0,0] B50) :: .inBlock 2 :: K) [(0,str a0),(1,.int .i64 z1_83),(2,ptr a2_b 0),(6,ptr b1 0),(8,.int .i64 a1),(9,ptr b114 0),(10,.int .i64 x10_115)] [(some b114,.cells (#[.int .i64 y_116_0,.int .i64 0,(.slice none 0 0)]) 25 (0,0)),(some b1,.cells (#[.int .i64 0,.int .i64 0,(.slice none 0 0)]) 25 (0,0)),(some a2_b,.cells (#[.int .i64 (IntKind.i64.wrap (a2 - 1))]) 3 (0,0))]:=by
 intro k
 induction k with
 | zero => intro M I hE hx x10_115 y_116_0 r0_ h; simp [ref29_read.L1] at h
 | succ k ih =>
  intro M I hE hx x10_115 y_116_0 r0_ h hk
  unfold ref29_read.L1 at h
  refine TT.seq (x:=sub [1,1,1,1,1,1,0,1,0,0,0] B50) (y:=sub [1,1,1,1,1,1,0,1,0,0,1] B50) ?_
  refine TT.seq (x:=sub [1,1,1,1,1,1,0,1,0,0,0,0] B50) (y:=sub [1,1,1,1,1,1,0,1,0,0,0,1] B50) ?_
  refine TT.rg [0,1] [kp,kp] rfl rfl ?_
  refine DL.mv 49 (.int .i64 x10_115) rfl rfl rfl ?_
  refine DL.pu 50 (.bool (decide (x10_115 ≤ 9))) rfl (p_leq rfl rfl rfl) ?_
  refine DL.nil ?_
  by_cases c198 : (decide (x10_115 ≤ 9)) = true
  ·
   have h199:=ite_true c198 h
   refine TT.cond_true (x:=sub [1,1,1,1,1,1,0,1,0,0,0,1,0] B50) (y:=sub [1,1,1,1,1,1,0,1,0,0,0,1,1] B50) rfl c198 ?_
   refine TT.skip ?_
   refine TT.seq (x:=sub [1,1,1,1,1,1,0,1,0,0,1,0] B50) (y:=sub [1,1,1,1,1,1,0,1,0,0,1,1] B50) ?_
   refine TT.block (c:=sub [1,1,1,1,1,1,0,1,0,0,1,0,0] B50) ?_
   refine TT.seq (x:=sub [1,1,1,1,1,1,0,1,0,0,1,0,0,0] B50) (y:=sub [1,1,1,1,1,1,0,1,0,0,1,0,0,1] B50) ?_
   refine TT.rgD [0,1,2,3,5,4,6,7,8] [0,0,0,7,0,0,48,112,255] [kp,kp,kp,kp,kk,kp,kp,kq,kp] rfl mixed (by kernel_rfl) ?_
   intro w200 hl200 hj200 hz200
   refine DL.mv 53 (str a0) rfl rfl rfl ?_
   refine DL.mv 54 (.int .i64 a1) rfl rfl rfl ?_
   refine DL.mv 55 (.int .i64 z1_83) rfl rfl rfl ?_
   obtain ⟨g201,h202⟩:=req_some h199
   obtain ⟨g203,h204⟩:=req_some h202
   obtain ⟨g205,h206⟩:=req_some h204
   obtain ⟨t207,e208,h209⟩:=nm_some h206
   refine DL.pu 56 (str t207) rfl (by rw [e208]; exact p_strSubLH ty_u9 g201 g203 g205 rfl rfl rfl rfl) ?_
   refine DL.mv 58 (.int .i64 x10_115) rfl rfl rfl ?_
   obtain ⟨t210,h211,h212⟩:=bind_some h209
   refine DL.callF (G:=Value) (u:=fun g => g) (Q:=fun g M_ => (RowS Sh.str M_ g t210)) (A:=[(some b114,.cells (#[.int .i64 y_116_0,.int .i64 0,(.slice none 0 0)]) 25 (0,0)),(some b1,.cells (#[.int .i64 0,.int .i64 0,(.slice none 0 0)]) 25 (0,0)),(some a2_b,.cells (#[.int .i64 (IntKind.i64.wrap (a2 - 1))]) 3 (0,0))]) (J:=[]) (fun J213 => ((some b114,.cells (#[.int .i64 y_116_0,.int .i64 0,(.slice none 0 0)]) 25 (0,0)) :: (some b1,.cells (#[.int .i64 0,.int .i64 0,(.slice none 0 0)]) 25 (0,0)) :: (some a2_b,.cells (#[.int .i64 (IntKind.i64.wrap (a2 - 1))]) 3 (0,0)) :: J213)) hl200.2.2.2 hE.nil (List.append_nil _).symm (fun _ => rfl) (by simp) (i:=4) rfl (Wn.none rfl) rfl rfl rfl rfl rfl rfl (args_val (vs:=[]) rfl) (fun w => enter46 _ w) (fun w hc hI => ref29_names.ok h211 (M:=M) w hI ) ?_
   rintro t210_v M213 J213 hE213 hx213 hr_t210
   show DL _ _ _ _ _ _ _ _ _ _ _ _ ((some b114,.cells (#[.int .i64 y_116_0,.int .i64 0,(.slice none 0 0)]) 25 (0,0)) :: (some b1,.cells (#[.int .i64 0,.int .i64 0,(.slice none 0 0)]) 25 (0,0)) :: (some a2_b,.cells (#[.int .i64 (IntKind.i64.wrap (a2 - 1))]) 3 (0,0)) :: J213)
   obtain ⟨g214,h215⟩:=req_some h212
   obtain ⟨g216,h217⟩:=req_some h215
   refine DL.pu 59 (elp t210_v x10_115.toNat) rfl (p_slIx1 ty_u64 ty_s9 (RowS.some hr_t210 g214 g216) g214 g216 rfl rfl rfl) ?_
   refine DL.qu 60 (str (t210.getD x10_115.toNat [])) rfl (q_loadEl (fun w hc => hE213.immJ (A:=[(some b114,.cells (#[.int .i64 y_116_0,.int .i64 0,(.slice none 0 0)]) 25 (0,0)),(some b1,.cells (#[.int .i64 0,.int .i64 0,(.slice none 0 0)]) 25 (0,0)),(some a2_b,.cells (#[.int .i64 (IntKind.i64.wrap (a2 - 1))]) 3 (0,0))]) hc rfl) (RowS.strs hr_t210) (strs_get (lt_len g214 g216)) ty_a9 rfl rfl) ?_
   refine DL.pu 61 (.bool (t207 == (t210.getD x10_115.toNat []))) rfl (p_strEq rfl rfl rfl) ?_
   refine DL.nil' hl200 ?_
   refine TT.settle (A:=[(some b114,.cells (#[.int .i64 y_116_0,.int .i64 0,(.slice none 0 0)]) 25 (0,0)),(some b1,.cells (#[.int .i64 0,.int .i64 0,(.slice none 0 0)]) 25 (0,0)),(some a2_b,.cells (#[.int .i64 (IntKind.i64.wrap (a2 - 1))]) 3 (0,0))]) (J:=J213) hE213 ?_
   intro I218 hE218 hxI218
   obtain ⟨j_b114_0_220,h221,h222⟩:=bind_some h217
   have J223 : TT Tryd.prog 50 R 153 w0 I218 (.inBlock 3 :: .code (sub [1,1,1,1,1,1,0,1,0,0,1,1] B50) :: .inLoop (sub [1,1,1,1,1,1,0,1,0,0] B50) :: .inBlock 2 :: K) [(0,str a0),(1,.int .i64 z1_83),(2,ptr a2_b 0),(6,ptr b1 0),(8,.int .i64 a1),(9,ptr b114 0),(10,.int .i64 x10_115)] [(some b114,.cells (#[.int .i64 j_b114_0_220,.int .i64 0,(.slice none 0 0)]) 25 (0,0)),(some b1,.cells (#[.int .i64 0,.int .i64 0,(.slice none 0 0)]) 25 (0,0)),(some a2_b,.cells (#[.int .i64 (IntKind.i64.wrap (a2 - 1))]) 3 (0,0))]:=by
    refine TT.inBlock ?_
    refine TT.rg [0,1,2] [kp,kp,kp] rfl rfl ?_
    refine DL.mv 51 (.int .i64 x10_115) rfl rfl rfl ?_
    refine DL.pu 52 (.int .i64 (IntKind.i64.wrap (x10_115 + 1))) rfl (p_add rfl rfl rfl) ?_
    refine DL.pu 10 (.int .i64 (IntKind.i64.wrap (x10_115 + 1))) rfl (p_assign rfl rfl) ?_
    refine DL.nil ?_
    refine TT.inLoop ?_
    exact TT.weak (ih M213 I218 hE218 (hx.trans hx213) (IntKind.i64.wrap (x10_115 + 1)) j_b114_0_220 r0_ h222 hk) (Sub.cons rfl (Sub.cons rfl (Sub.cons rfl (Sub.cons rfl (Sub.cons rfl (Sub.cons rfl (Sub.cons rfl (Sub.nil _))))))))
   by_cases c219 : (t207 == (t210.getD x10_115.toNat [])) = true
   ·
    have h225:=ite_true c219 h221
    refine TT.cond_true (x:=sub [1,1,1,1,1,1,0,1,0,0,1,0,0,1,0] B50) (y:=sub [1,1,1,1,1,1,0,1,0,0,1,0,0,1,1] B50) rfl c219 ?_
    refine TT.rg [0,1,2] [kp,kp,(.store,none)] rfl rfl ?_
    refine DL.mv 62 (.int .i64 x10_115) rfl rfl rfl ?_
    refine DL.pu 63 (ptr b114 0) rfl (p_fieldAddr ty_f25_0 rfl rfl) ?_
    refine DL.put (H':=[(some b114,.cells (#[.int .i64 x10_115,.int .i64 0,(.slice none 0 0)]) 25 (0,0)),(some b1,.cells (#[.int .i64 0,.int .i64 0,(.slice none 0 0)]) 25 (0,0)),(some a2_b,.cells (#[.int .i64 (IntKind.i64.wrap (a2 - 1))]) 3 (0,0))]) (i:=2) rfl (Wn.none rfl) rfl rfl (f_store (c:=#[.int .i64 y_116_0,.int .i64 0,(.slice none 0 0)]) (v:=.int .i64 x10_115) (off:=0) (j:=0) ty_s23 rfl rfl (of_decide_eq_true rfl) trivial rfl rfl rfl) (keep_none rfl) ?_
    refine DL.nil ?_
    obtain rfl:=Option.some.inj h225
    exact TT.weak (J223 ) (Sub.cons rfl (Sub.cons rfl (Sub.cons rfl (Sub.cons rfl (Sub.cons rfl (Sub.cons rfl (Sub.cons rfl (Sub.nil _))))))))
   ·
    replace c219:=Bool.eq_false_iff.mpr c219
    have h226:=ite_false c219 h221
    refine TT.cond_false (x:=sub [1,1,1,1,1,1,0,1,0,0,1,0,0,1,0] B50) (y:=sub [1,1,1,1,1,1,0,1,0,0,1,0,0,1,1] B50) rfl c219 ?_
    refine TT.skip ?_
    obtain rfl:=Option.some.inj h226
    exact TT.weak (J223 ) (Sub.cons rfl (Sub.cons rfl (Sub.cons rfl (Sub.cons rfl (Sub.cons rfl (Sub.cons rfl (Sub.cons rfl (Sub.nil _))))))))
  ·
   replace c198:=Bool.eq_false_iff.mpr c198
   have h227:=ite_false c198 h
   refine TT.cond_false (x:=sub [1,1,1,1,1,1,0,1,0,0,0,1,0] B50) (y:=sub [1,1,1,1,1,1,0,1,0,0,0,1,1] B50) rfl c198 ?_
   refine TT.exit rfl ?_
   obtain rfl:=Option.some.inj h227
   exact TT.weak (hk M I hE hx) (Sub.cons rfl (Sub.cons rfl (Sub.cons rfl (Sub.cons rfl (Sub.cons rfl (Sub.nil _))))))

def ref29_read.L2 (r_ref29_read : (List UInt8) → Int → Int → Option (Tm × Int × Int)) (a0 : List UInt8) (z_b114_0_197 : Int) : Nat → (List Tm) → Int → Int → Int → Option ((List Tm × Int × Int) ⊕ (Tm × Int × Int))
 | 0,_,_,_,_ => none
 | k + 1,y_270,x1_271,x14_272,y_274 => (ref29_args.f z_b114_0_197).bind fun t371 => if (decide (x14_272 < t371)) = true then ((if (x14_272 == 0) = true then (some 40) else (some 44)).bind fun j15_377 => (if (decide ((a0.length : Int) ≤ x1_271)) = true then (some true) else (req (0 ≤ x1_271) (req (x1_271 < (a0.length : Int)) (some ((chr a0 x1_271.toNat) != j15_377))))).bind fun q385 => if q385 = true then (some (.inr (Tm.mk z_b114_0_197 0 y_270,(-1),y_274))) else ((r_ref29_read a0 (IntKind.i64.wrap (x1_271 + 1)) y_274).bind fun (t401_0,t401_1,t401_h) => if (decide (t401_1 < 0)) = true then (some (.inr (Tm.mk z_b114_0_197 0 y_270,(-1),t401_h))) else (req (y_270.length + [t401_0].length ≤ 1099511627776) (ref29_read.L2 r_ref29_read a0 z_b114_0_197 k (y_270 ++ [t401_0]) t401_1 (IntKind.i64.wrap (x14_272 + 1)) t401_h)))) else (some (.inl (y_270,x1_271,y_274)))
set_option maxRecDepth 20000 in
theorem ref29_read.L2_ok {r_ref29_read : (List UInt8) → Int → Int → Option (Tm × Int × Int)} (hr_ref29_read : ref29_read.Rec r_ref29_read) (a0 : List UInt8) (a2_b : Nat) (b1 : Nat) (b114 : Nat) (z_b114_0_197 : Int) {r_0 : Tm} {r_1 : Int} {r_h : Int}  {w0 : World} {M0 Mb : Mem} {K : List Item} :
  ∀ (k : Nat) (M I : Mem) (hE : EnvX (some a2_b) w0 M0 M I) (hx : Ext Mb M) (y_270 : List Tm) (x1_271 : Int) (x14_272 : Int) (y_274 : Int) (y_270_v : Value) (y_270_c : Array Value) (q : (List Tm × Int × Int) ⊕ (Tm × Int × Int)) (ho_y_270 : OwnS ShTm M y_270_v y_270_c y_270) (h : ref29_read.L2 r_ref29_read a0 z_b114_0_197 k y_270 x1_271 x14_272 y_274 = some q) (hk : match (generalizing:=false) q with | .inl (r0_,r1_,r2_) => (∀ (M' I' : Mem),EnvX (some a2_b) w0 M0 M' I' → Ext Mb M' → ∀ (z_o269_368_v : Value),∀ (z_o269_368_c : Array Value),OwnS ShTm M' z_o269_368_v z_o269_368_c r0_ → TT Tryd.prog 50 (PostX (G:=Value) (fun g => .tuple #[.agg (Tm.ce r_0 g),.int .i64 r_1]) (fun g M_ => (RowS ShTm M_ g (Tree.kids r_0))) (fun g => (some a2_b)) (fun g => .cells (#[.int .i64 r_h]) 3 (0,0)) (some a2_b) M0 w0) 153 w0 I' K [(0,str a0),(1,.int .i64 r1_),(6,ptr b1 0),(9,ptr b114 0)] [(Value.ownBlock z_o269_368_v,.cells z_o269_368_c 25 (0,0)),(some b114,.cells (#[.int .i64 z_b114_0_197,.int .i64 0,z_o269_368_v]) 25 (0,0)),(some b1,.cells (#[.int .i64 0,.int .i64 0,(.slice none 0 0)]) 25 (0,0)),(some a2_b,.cells (#[.int .i64 r2_]) 3 (0,0))]) | .inr (r_0q,r_1q,r_hq) => (r_0q,r_1q,r_hq) = (r_0,r_1,r_h)),
   TT Tryd.prog 50 (PostX (G:=Value) (fun g => .tuple #[.agg (Tm.ce r_0 g),.int .i64 r_1]) (fun g M_ => (RowS ShTm M_ g (Tree.kids r_0))) (fun g => (some a2_b)) (fun g => .cells (#[.int .i64 r_h]) 3 (0,0)) (some a2_b) M0 w0) 153 w0 I (.code (sub [1,1,1,1,1,1,1,1,1,0,1,0,0] B50) :: .inLoop (sub [1,1,1,1,1,1,1,1,1,0,1,0,0] B50) :: .inBlock 4 :: K) [(0,str a0),(1,.int .i64 x1_271),(2,ptr a2_b 0),(6,ptr b1 0),(9,ptr b114 0),(14,.int .i64 x14_272)] [(Value.ownBlock y_270_v,.cells y_270_c 25 (0,0)),(some b114,.cells (#[.int .i64 z_b114_0_197,.int .i64 0,y_270_v]) 25 (0,0)),(some b1,.cells (#[.int .i64 0,.int .i64 0,(.slice none 0 0)]) 25 (0,0)),(some a2_b,.cells (#[.int .i64 y_274]) 3 (0,0))]:=by
 intro k
 induction k with
 | zero => intro M I hE hx y_270 x1_271 x14_272 y_274 y_270_v y_270_c q ho_y_270 h; simp [ref29_read.L2] at h
 | succ k ih =>
  intro M I hE hx y_270 x1_271 x14_272 y_274 y_270_v y_270_c q ho_y_270 h hk
  unfold ref29_read.L2 at h
  refine TT.seq (x:=sub [1,1,1,1,1,1,1,1,1,0,1,0,0,0] B50) (y:=sub [1,1,1,1,1,1,1,1,1,0,1,0,0,1] B50) ?_
  refine TT.seq (x:=sub [1,1,1,1,1,1,1,1,1,0,1,0,0,0,0] B50) (y:=sub [1,1,1,1,1,1,1,1,1,0,1,0,0,0,1] B50) ?_
  refine TT.rg [0,1,2,3,4] [kp,kp,kq,kq,kp] rfl rfl ?_
  refine DL.mv 100 (.int .i64 x14_272) rfl rfl rfl ?_
  refine DL.pu 101 (ptr b114 0) rfl (p_fieldAddr ty_f25_0 rfl rfl) ?_
  refine DL.qu 102 (.int .i64 z_b114_0_197) rfl (f_load (j:=1) ty_a23 rfl rfl rfl rfl) ?_
  obtain ⟨t371,h372,h373⟩:=bind_some h
  refine DL.qu 103 (.int .i64 t371) rfl (f_callR rfl rfl (args_val (vs:=[.int .i64 z_b114_0_197]) rfl) (fun w => enter53 _ w) (fun w hc => ref29_args.val h372 (M:=M) w (hE.ext hc) )) ?_
  refine DL.pu 104 (.bool (decide (x14_272 < t371))) rfl (p_lss rfl rfl rfl) ?_
  refine DL.nil ?_
  by_cases c374 : (decide (x14_272 < t371)) = true
  ·
   have h375:=ite_true c374 h373
   refine TT.cond_true (x:=sub [1,1,1,1,1,1,1,1,1,0,1,0,0,0,1,0] B50) (y:=sub [1,1,1,1,1,1,1,1,1,0,1,0,0,0,1,1] B50) rfl c374 ?_
   refine TT.skip ?_
   refine TT.seq (x:=sub [1,1,1,1,1,1,1,1,1,0,1,0,0,1,0] B50) (y:=sub [1,1,1,1,1,1,1,1,1,0,1,0,0,1,1] B50) ?_
   refine TT.block (c:=sub [1,1,1,1,1,1,1,1,1,0,1,0,0,1,0,0] B50) ?_
   refine TT.seq (x:=sub [1,1,1,1,1,1,1,1,1,0,1,0,0,1,0,0,0] B50) (y:=sub [1,1,1,1,1,1,1,1,1,0,1,0,0,1,0,0,1] B50) ?_
   refine TT.rg [0] [kp] rfl rfl ?_
   refine DL.pu 15 (.int .u8 44) rfl (p_assign rfl rfl) ?_
   refine DL.nil ?_
   refine TT.seq (x:=sub [1,1,1,1,1,1,1,1,1,0,1,0,0,1,0,0,1,0] B50) (y:=sub [1,1,1,1,1,1,1,1,1,0,1,0,0,1,0,0,1,1] B50) ?_
   refine TT.seq (x:=sub [1,1,1,1,1,1,1,1,1,0,1,0,0,1,0,0,1,0,0] B50) (y:=sub [1,1,1,1,1,1,1,1,1,0,1,0,0,1,0,0,1,0,1] B50) ?_
   refine TT.rg [0,1] [kp,kp] rfl rfl ?_
   refine DL.mv 107 (.int .i64 x14_272) rfl rfl rfl ?_
   refine DL.pu 108 (.bool (x14_272 == 0)) rfl (p_eql rfl rfl rfl) ?_
   refine DL.nil ?_
   obtain ⟨j15_377,h378,h379⟩:=bind_some h375
   have J380 : TT Tryd.prog 50 (PostX (G:=Value) (fun g => .tuple #[.agg (Tm.ce r_0 g),.int .i64 r_1]) (fun g M_ => (RowS ShTm M_ g (Tree.kids r_0))) (fun g => (some a2_b)) (fun g => .cells (#[.int .i64 r_h]) 3 (0,0)) (some a2_b) M0 w0) 153 w0 I (.code (sub [1,1,1,1,1,1,1,1,1,0,1,0,0,1,0,0,1,1] B50) :: .inBlock 5 :: .code (sub [1,1,1,1,1,1,1,1,1,0,1,0,0,1,1] B50) :: .inLoop (sub [1,1,1,1,1,1,1,1,1,0,1,0,0] B50) :: .inBlock 4 :: K) [(0,str a0),(1,.int .i64 x1_271),(2,ptr a2_b 0),(6,ptr b1 0),(9,ptr b114 0),(14,.int .i64 x14_272),(15,.int .u8 j15_377)] [(Value.ownBlock y_270_v,.cells y_270_c 25 (0,0)),(some b114,.cells (#[.int .i64 z_b114_0_197,.int .i64 0,y_270_v]) 25 (0,0)),(some b1,.cells (#[.int .i64 0,.int .i64 0,(.slice none 0 0)]) 25 (0,0)),(some a2_b,.cells (#[.int .i64 y_274]) 3 (0,0))]:=by
    refine TT.seq (x:=sub [1,1,1,1,1,1,1,1,1,0,1,0,0,1,0,0,1,1,0] B50) (y:=sub [1,1,1,1,1,1,1,1,1,0,1,0,0,1,0,0,1,1,1] B50) ?_
    refine TT.seq (x:=sub [1,1,1,1,1,1,1,1,1,0,1,0,0,1,0,0,1,1,0,0] B50) (y:=sub [1,1,1,1,1,1,1,1,1,0,1,0,0,1,0,0,1,1,0,1] B50) ?_
    refine TT.rg [0,1,2,3,4,5,6,7,8,9,10] [kp,kp,kp,kp,kp,kp,kp,kp,kp,kp,kp] rfl rfl ?_
    refine DL.mv 109 (.int .i64 x1_271) rfl rfl rfl ?_
    refine DL.mv 110 (str a0) rfl rfl rfl ?_
    refine DL.pu 111 (.int .i64 (a0.length : Int)) rfl (p_strLen ty_u9 rfl rfl) ?_
    refine DL.pu 112 (.bool (decide ((a0.length : Int) ≤ x1_271))) rfl (p_geq rfl rfl rfl) ?_
    refine DL.mv 113 (.bool (decide ((a0.length : Int) ≤ x1_271))) rfl rfl rfl ?_
    obtain ⟨q385,h386,h387⟩:=bind_some h379
    refine DL.cut [(0,str a0),(1,.int .i64 x1_271),(2,ptr a2_b 0),(6,ptr b1 0),(9,ptr b114 0),(14,.int .i64 x14_272),(119,.bool q385)] [] ?_ (fun J388 => ?_)
    ·
     refine DL.nil ?_
     by_cases c396 : q385 = true
     ·
      have h397:=ite_true c396 h387
      refine TT.cond_true (x:=sub [1,1,1,1,1,1,1,1,1,0,1,0,0,1,0,0,1,1,0,1,0] B50) (y:=sub [1,1,1,1,1,1,1,1,1,0,1,0,0,1,0,0,1,1,0,1,1] B50) rfl c396 ?_
      refine TT.seq (x:=sub [1,1,1,1,1,1,1,1,1,0,1,0,0,1,0,0,1,1,0,1,0,0] B50) (y:=sub [1,1,1,1,1,1,1,1,1,0,1,0,0,1,0,0,1,1,0,1,0,1] B50) ?_
      refine TT.rg [0,1,2] [kq,(.store,none),kp] rfl rfl ?_
      refine DL.qu 120 (.agg #[.int .i64 z_b114_0_197,.int .i64 0,y_270_v]) rfl (f_loadA (j:=1) ty_a25 ty_s25 rfl rfl rfl rfl) ?_
      refine DL.put (H':=[(Value.ownBlock y_270_v,.cells y_270_c 25 (0,0)),(some b114,.cells (#[.int .i64 z_b114_0_197,.int .i64 0,y_270_v]) 25 (0,0)),(some b1,.cells (#[.int .i64 z_b114_0_197,.int .i64 0,y_270_v]) 25 (0,0)),(some a2_b,.cells (#[.int .i64 y_274]) 3 (0,0))]) (i:=1) rfl (Wn.none rfl) rfl rfl (f_storeA (j:=2) ty_s25 rfl rfl rfl (one_cons trivial (one_cons trivial (one_cons (sl_one (OwnS.sl ho_y_270)) one_nil))) rfl rfl rfl) (keep_none rfl) ?_
      refine DL.pu 7 (.int .i64 (-1)) rfl (p_assign rfl rfl) ?_
      refine DL.nil ?_
      refine TT.freezeAtX (fun b e => by cases e; exact ⟨3,_,by decide,rfl⟩) (j:=0) hE rfl ?_
      intro M398 I398 hE398 hx398 hxI398 hb398
      have hr_398 : RowS ShTm M398 y_270_v y_270:=OwnS.stays ho_y_270 hx398 hb398
      show TT _ _ _ _ _ _ _ _ [(some b114,.cells (#[.int .i64 z_b114_0_197,.int .i64 0,y_270_v]) 25 (0,0)),(some b1,.cells (#[.int .i64 z_b114_0_197,.int .i64 0,y_270_v]) 25 (0,0)),(some a2_b,.cells (#[.int .i64 y_274]) 3 (0,0))]
      obtain rfl:=Option.some.inj h397
      have k399 : (Tm.mk z_b114_0_197 0 y_270,(-1),y_274) = (r_0,r_1,r_h):=hk
      simp only [Prod.mk.injEq] at k399
      obtain ⟨rfl,rfl,rfl⟩:=k399
      exact retX (rs:=[.cell 6 25,.tmp 7]) (vs:=[.agg #[.int .i64 z_b114_0_197,.int .i64 0,y_270_v],.int .i64 (-1)]) (j:=2) y_270_v hE398 Tryd.func50 rfl rfl rfl (res_cons (ResV.cell (j:=1) ty_a25 ty_s25 rfl rfl rfl) (res_cons (ResV.tmp rfl) res_nil)) rfl hr_398
     ·
      replace c396:=Bool.eq_false_iff.mpr c396
      have h400:=ite_false c396 h387
      refine TT.cond_false (x:=sub [1,1,1,1,1,1,1,1,1,0,1,0,0,1,0,0,1,1,0,1,0] B50) (y:=sub [1,1,1,1,1,1,1,1,1,0,1,0,0,1,0,0,1,1,0,1,1] B50) rfl c396 ?_
      refine TT.skip ?_
      refine TT.seq (x:=sub [1,1,1,1,1,1,1,1,1,0,1,0,0,1,0,0,1,1,1,0] B50) (y:=sub [1,1,1,1,1,1,1,1,1,0,1,0,0,1,0,0,1,1,1,1] B50) ?_
      refine TT.rg [0,1,2,3,4,5,6,7,8,9,10] [kp,kp,kp,kp,kx,kp,kp,kp,(.alloc,none),(.store,none),kp] rfl rfl ?_
      refine DL.mv 122 (str a0) rfl rfl rfl ?_
      refine DL.mv 123 (.int .i64 x1_271) rfl rfl rfl ?_
      refine DL.pu 124 (.int .i64 (IntKind.i64.wrap (x1_271 + 1))) rfl (p_add rfl rfl rfl) ?_
      refine DL.mv 125 (ptr a2_b 0) rfl rfl rfl ?_
      obtain ⟨⟨t401_0,t401_1,t401_h⟩,h402,h403⟩:=bind_some h400
      refine DL.callX (G:=Value) (u:=fun g => .tuple #[.agg (Tm.ce t401_0 g),.int .i64 t401_1]) (Q:=fun g M_ => (RowS ShTm M_ g (Tree.kids t401_0))) (r':=fun g => (some a2_b)) (o':=fun g => .cells (#[.int .i64 t401_h]) 3 (0,0)) (A:=[(Value.ownBlock y_270_v,.cells y_270_c 25 (0,0)),(some b114,.cells (#[.int .i64 z_b114_0_197,.int .i64 0,y_270_v]) 25 (0,0)),(some b1,.cells (#[.int .i64 0,.int .i64 0,(.slice none 0 0)]) 25 (0,0)),(some a2_b,.cells (#[.int .i64 y_274]) 3 (0,0))]) (J:=[]) (j:=3) (fun r_404 o_404 J404 => ((Value.ownBlock y_270_v,.cells y_270_c 25 (0,0)) :: (some b114,.cells (#[.int .i64 z_b114_0_197,.int .i64 0,y_270_v]) 25 (0,0)) :: (some b1,.cells (#[.int .i64 0,.int .i64 0,(.slice none 0 0)]) 25 (0,0)) :: (r_404,o_404) :: J404)) (Nat.le_refl _) hE.nil (List.append_nil _).symm rfl (fun _ _ _ => rfl) (by simp) (i:=4) rfl (Wn.none rfl) rfl rfl rfl rfl rfl rfl (args_val (vs:=[str a0,.int .i64 (IntKind.i64.wrap (x1_271 + 1)),ptr a2_b 0]) rfl) (fun w => enter50 _ w) (fun w hc hI hx_ hm_ => hr_ref29_read h402 (M:=M) w hI  hx_ hm_) ?_
      rintro t401_0_2 M404 J404 hE404 hx404 hr_t401_0_2
      show DL _ _ _ _ _ _ _ _ _ _ _ _ ((Value.ownBlock y_270_v,.cells y_270_c 25 (0,0)) :: (some b114,.cells (#[.int .i64 z_b114_0_197,.int .i64 0,y_270_v]) 25 (0,0)) :: (some b1,.cells (#[.int .i64 0,.int .i64 0,(.slice none 0 0)]) 25 (0,0)) :: (some a2_b,.cells (#[.int .i64 t401_h]) 3 (0,0)) :: J404)
      refine DL.mv 121 (.tuple #[.agg (Tm.ce t401_0 t401_0_2),.int .i64 t401_1]) rfl rfl rfl ?_
      refine DL.pu 127 (.agg (Tm.ce t401_0 t401_0_2)) rfl (p_extract rfl rfl rfl) ?_
      refine DL.pu 128 (.int .i64 t401_1) rfl (p_extract rfl rfl rfl) ?_
      refine DL.new (ob:=.cells (#[.int .i64 0,.int .i64 0,(.slice none 0 0)]) 25) (mk:=fun b => ptr b 0) (i:=8) rfl (Wn.none rfl) rfl rfl rfl (f_alloc ty_z25 rfl) ?_
      intro b405 hb405
      refine DL.put (H':=((some b405,.cells ((Tm.ce t401_0 t401_0_2)) 25 (0,0)) :: (Value.ownBlock y_270_v,.cells y_270_c 25 (0,0)) :: (some b114,.cells (#[.int .i64 z_b114_0_197,.int .i64 0,y_270_v]) 25 (0,0)) :: (some b1,.cells (#[.int .i64 0,.int .i64 0,(.slice none 0 0)]) 25 (0,0)) :: (some a2_b,.cells (#[.int .i64 t401_h]) 3 (0,0)) :: J404)) (i:=9) rfl (Wn.none rfl) rfl rfl (f_storeA (j:=0) ty_s25 rfl rfl rfl (one_cons trivial (one_cons trivial (one_cons (sl_one (RowS.sl hr_t401_0_2)) one_nil))) rfl rfl rfl) (keep_none rfl) ?_
      refine DL.pu 17 (.int .i64 t401_1) rfl (p_assign rfl rfl) ?_
      refine DL.nil ?_
      refine TT.settle (A:=[(some b405,.cells ((Tm.ce t401_0 t401_0_2)) 25 (0,0)),(Value.ownBlock y_270_v,.cells y_270_c 25 (0,0)),(some b114,.cells (#[.int .i64 z_b114_0_197,.int .i64 0,y_270_v]) 25 (0,0)),(some b1,.cells (#[.int .i64 0,.int .i64 0,(.slice none 0 0)]) 25 (0,0)),(some a2_b,.cells (#[.int .i64 t401_h]) 3 (0,0))]) (J:=J404) hE404 ?_
      intro I406 hE406 hxI406
      refine TT.seq (x:=sub [1,1,1,1,1,1,1,1,1,0,1,0,0,1,0,0,1,1,1,1,0] B50) (y:=sub [1,1,1,1,1,1,1,1,1,0,1,0,0,1,0,0,1,1,1,1,1] B50) ?_
      refine TT.seq (x:=sub [1,1,1,1,1,1,1,1,1,0,1,0,0,1,0,0,1,1,1,1,0,0] B50) (y:=sub [1,1,1,1,1,1,1,1,1,0,1,0,0,1,0,0,1,1,1,1,0,1] B50) ?_
      refine TT.rg [0,1] [kp,kp] rfl rfl ?_
      refine DL.mv 129 (.int .i64 t401_1) rfl rfl rfl ?_
      refine DL.pu 130 (.bool (decide (t401_1 < 0))) rfl (p_lss rfl rfl rfl) ?_
      refine DL.nil ?_
      by_cases c407 : (decide (t401_1 < 0)) = true
      ·
       have h408:=ite_true c407 h403
       refine TT.cond_true (x:=sub [1,1,1,1,1,1,1,1,1,0,1,0,0,1,0,0,1,1,1,1,0,1,0] B50) (y:=sub [1,1,1,1,1,1,1,1,1,0,1,0,0,1,0,0,1,1,1,1,0,1,1] B50) rfl c407 ?_
       refine TT.seq (x:=sub [1,1,1,1,1,1,1,1,1,0,1,0,0,1,0,0,1,1,1,1,0,1,0,0] B50) (y:=sub [1,1,1,1,1,1,1,1,1,0,1,0,0,1,0,0,1,1,1,1,0,1,0,1] B50) ?_
       refine TT.rg [0,1,2] [kq,(.store,none),kp] rfl rfl ?_
       refine DL.qu 131 (.agg #[.int .i64 z_b114_0_197,.int .i64 0,y_270_v]) rfl (f_loadA (j:=2) ty_a25 ty_s25 rfl rfl rfl rfl) ?_
       refine DL.put (H':=[(some b405,.cells ((Tm.ce t401_0 t401_0_2)) 25 (0,0)),(Value.ownBlock y_270_v,.cells y_270_c 25 (0,0)),(some b114,.cells (#[.int .i64 z_b114_0_197,.int .i64 0,y_270_v]) 25 (0,0)),(some b1,.cells (#[.int .i64 z_b114_0_197,.int .i64 0,y_270_v]) 25 (0,0)),(some a2_b,.cells (#[.int .i64 t401_h]) 3 (0,0))]) (i:=1) rfl (Wn.none rfl) rfl rfl (f_storeA (j:=3) ty_s25 rfl rfl rfl (one_cons trivial (one_cons trivial (one_cons (sl_one (OwnS.sl (OwnS.mono ho_y_270 hx404))) one_nil))) rfl rfl rfl) (keep_none rfl) ?_
       refine DL.pu 7 (.int .i64 (-1)) rfl (p_assign rfl rfl) ?_
       refine DL.nil ?_
       refine TT.freezeAtX (fun b e => by cases e; exact ⟨4,_,by decide,rfl⟩) (j:=1) hE406 rfl ?_
       intro M409 I409 hE409 hx409 hxI409 hb409
       have hr_409 : RowS ShTm M409 y_270_v y_270:=OwnS.stays (OwnS.mono ho_y_270 hx404) hx409 hb409
       show TT _ _ _ _ _ _ _ _ [(some b405,.cells ((Tm.ce t401_0 t401_0_2)) 25 (0,0)),(some b114,.cells (#[.int .i64 z_b114_0_197,.int .i64 0,y_270_v]) 25 (0,0)),(some b1,.cells (#[.int .i64 z_b114_0_197,.int .i64 0,y_270_v]) 25 (0,0)),(some a2_b,.cells (#[.int .i64 t401_h]) 3 (0,0))]
       obtain rfl:=Option.some.inj h408
       have k410 : (Tm.mk z_b114_0_197 0 y_270,(-1),t401_h) = (r_0,r_1,r_h):=hk
       simp only [Prod.mk.injEq] at k410
       obtain ⟨rfl,rfl,rfl⟩:=k410
       exact retX (rs:=[.cell 6 25,.tmp 7]) (vs:=[.agg #[.int .i64 z_b114_0_197,.int .i64 0,y_270_v],.int .i64 (-1)]) (j:=3) y_270_v hE409 Tryd.func50 rfl rfl rfl (res_cons (ResV.cell (j:=2) ty_a25 ty_s25 rfl rfl rfl) (res_cons (ResV.tmp rfl) res_nil)) rfl hr_409
      ·
       replace c407:=Bool.eq_false_iff.mpr c407
       have h411:=ite_false c407 h403
       refine TT.cond_false (x:=sub [1,1,1,1,1,1,1,1,1,0,1,0,0,1,0,0,1,1,1,1,0,1,0] B50) (y:=sub [1,1,1,1,1,1,1,1,1,0,1,0,0,1,0,0,1,1,1,1,0,1,1] B50) rfl c407 ?_
       refine TT.skip ?_
       refine TT.seq (x:=sub [1,1,1,1,1,1,1,1,1,0,1,0,0,1,0,0,1,1,1,1,1,0] B50) (y:=sub [1,1,1,1,1,1,1,1,1,0,1,0,0,1,0,0,1,1,1,1,1,1] B50) ?_
       refine TT.rg [0,1,2,3,4,5,6] [kp,kq,kq,(.alloc,none),kx,kp,(.store,none)] rfl rfl ?_
       refine DL.pu 132 (ptr b114 2) rfl (p_fieldAddr ty_f25_2 rfl rfl) ?_
       refine DL.qu 133 (y_270_v) rfl (f_load (j:=2) ty_a22 rfl rfl rfl rfl) ?_
       refine DL.qu 134 (.agg (Tm.ce t401_0 t401_0_2)) rfl (f_loadA (j:=0) ty_a25 ty_s25 rfl rfl rfl rfl) ?_
       refine DL.newS (M:=M404) (s:=ShTm) (zs:=[t401_0]) (cells:=[.int .i64 (Tm.kind t401_0),.int .i64 (Tm.num t401_0),t401_0_2]) (n:=1) rfl (by decide) rfl (fun i x hx => by match i,hx with | 0,hx => cases hx; exact (Tm.cl (t:=t401_0) hr_t401_0_2) | k + 1,hx => simp at hx) (i:=3) rfl (Wn.none rfl) rfl rfl rfl (f_buildS (n:=1) (vs:=[(0,.agg (Tm.ce t401_0 t401_0_2))]) elem22 rfl rfl (by kernel_rfl) rfl (args_val2 rfl)) ?_
       intro s413_v s413_c ho_s413
       obtain ⟨g414,h415⟩:=req_some h411
       refine DL.appendS (M:=M404) (s:=ShTm) (fun s416_v s416_c => [(Value.ownBlock s413_v,.cells s413_c 25 (0,0)),(some b405,.cells ((Tm.ce t401_0 t401_0_2)) 25 (0,0)),(Value.ownBlock s416_v,.cells s416_c 25 (0,0)),(some b114,.cells (#[.int .i64 z_b114_0_197,.int .i64 0,y_270_v]) 25 (0,0)),(some b1,.cells (#[.int .i64 0,.int .i64 0,(.slice none 0 0)]) 25 (0,0)),(some a2_b,.cells (#[.int .i64 t401_h]) 3 (0,0))]) elem22 (j:=2) rfl (OwnS.mono ho_y_270 hx404) g414 (by decide) (OwnS.src (i:=0) ho_s413 rfl) (i:=4) rfl (Wn.none rfl) rfl rfl rfl rfl rfl rfl (fun _ _ => rfl) ?_
       intro s416_v s416_c ho_s416
       show DL _ _ _ _ _ _ _ _ _ _ _ _ [(Value.ownBlock s413_v,.cells s413_c 25 (0,0)),(some b405,.cells ((Tm.ce t401_0 t401_0_2)) 25 (0,0)),(Value.ownBlock s416_v,.cells s416_c 25 (0,0)),(some b114,.cells (#[.int .i64 z_b114_0_197,.int .i64 0,y_270_v]) 25 (0,0)),(some b1,.cells (#[.int .i64 0,.int .i64 0,(.slice none 0 0)]) 25 (0,0)),(some a2_b,.cells (#[.int .i64 t401_h]) 3 (0,0))]
       refine DL.pu 137 (ptr b114 2) rfl (p_fieldAddr ty_f25_2 rfl rfl) ?_
       refine DL.put (H':=[(Value.ownBlock s413_v,.cells s413_c 25 (0,0)),(some b405,.cells ((Tm.ce t401_0 t401_0_2)) 25 (0,0)),(Value.ownBlock s416_v,.cells s416_c 25 (0,0)),(some b114,.cells (#[.int .i64 z_b114_0_197,.int .i64 0,s416_v]) 25 (0,0)),(some b1,.cells (#[.int .i64 0,.int .i64 0,(.slice none 0 0)]) 25 (0,0)),(some a2_b,.cells (#[.int .i64 t401_h]) 3 (0,0))]) (i:=6) rfl (Wn.none rfl) rfl rfl (f_store (c:=#[.int .i64 z_b114_0_197,.int .i64 0,y_270_v]) (v:=s416_v) (off:=2) (j:=3) ty_s22 rfl (sl_cells (OwnS.sl ho_s416)) (of_decide_eq_true rfl) (sl_one (OwnS.sl ho_s416)) rfl rfl rfl) (keep_none rfl) ?_
       refine DL.nil ?_
       refine TT.rg [0,1] [kp,kp] rfl rfl ?_
       refine DL.mv 138 (.int .i64 t401_1) rfl rfl rfl ?_
       refine DL.pu 1 (.int .i64 t401_1) rfl (p_assign rfl rfl) ?_
       refine DL.nil ?_
       refine TT.inBlock ?_
       refine TT.rg [0,1,2] [kp,kp,kp] rfl rfl ?_
       refine DL.mv 105 (.int .i64 x14_272) rfl rfl rfl ?_
       refine DL.pu 106 (.int .i64 (IntKind.i64.wrap (x14_272 + 1))) rfl (p_add rfl rfl rfl) ?_
       refine DL.pu 14 (.int .i64 (IntKind.i64.wrap (x14_272 + 1))) rfl (p_assign rfl rfl) ?_
       refine DL.nil ?_
       refine TT.inLoop ?_
       exact TT.pick [2,3,4,5] (by decide) (TT.weak (ih M404 I406 hE406 (hx.trans hx404) (y_270 ++ [t401_0]) t401_1 (IntKind.i64.wrap (x14_272 + 1)) t401_h s416_v s416_c _ ho_s416 h415 hk) (Sub.cons rfl (Sub.cons rfl (Sub.cons rfl (Sub.cons rfl (Sub.cons rfl (Sub.cons rfl (Sub.nil _))))))))
    ·
     by_cases c389 : (decide ((a0.length : Int) ≤ x1_271)) = true
     ·
      have h390:=ite_true c389 h386
      refine DL.not (i:=5) rfl (Wn.yes c389 rfl rfl rfl rfl) rfl rfl ?_
      refine DL.not (i:=6) rfl (Wn.yes c389 rfl rfl rfl rfl) rfl rfl ?_
      refine DL.not (i:=7) rfl (Wn.yes c389 rfl rfl rfl rfl) rfl rfl ?_
      refine DL.not (i:=8) rfl (Wn.yes c389 rfl rfl rfl rfl) rfl rfl ?_
      refine DL.not (i:=9) rfl (Wn.yes c389 rfl rfl rfl rfl) rfl rfl ?_
      refine DL.pu 119 (.bool true) rfl (p_pick_t c389 rfl rfl rfl) ?_
      obtain rfl:=Option.some.inj h390
      exact DL.weak J388 (Sub.cons rfl (Sub.cons rfl (Sub.cons rfl (Sub.cons rfl (Sub.cons rfl (Sub.cons rfl (Sub.cons rfl (Sub.nil _))))))))
     ·
      replace c389:=Bool.eq_false_iff.mpr c389
      have h391:=ite_false c389 h386
      refine DL.pure (v:=str a0) rfl (Wn.no c389 rfl rfl rfl rfl) rfl rfl rfl (p_move rfl rfl) ?_
      refine DL.pure (v:=.int .i64 x1_271) rfl (Wn.no c389 rfl rfl rfl rfl) rfl rfl rfl (p_move rfl rfl) ?_
      obtain ⟨g392,h393⟩:=req_some h391
      obtain ⟨g394,h395⟩:=req_some h393
      refine DL.pure (v:=.int .u8 (chr a0 x1_271.toNat)) rfl (Wn.no c389 rfl rfl rfl rfl) rfl rfl rfl (p_strIndex ty_u9 g392 g394 rfl rfl rfl) ?_
      refine DL.pure (v:=.int .u8 j15_377) rfl (Wn.no c389 rfl rfl rfl rfl) rfl rfl rfl (p_move rfl rfl) ?_
      refine DL.pure (v:=.bool ((chr a0 x1_271.toNat) != j15_377)) rfl (Wn.no c389 rfl rfl rfl rfl) rfl rfl rfl (p_neq rfl rfl rfl) ?_
      refine DL.pu 119 (.bool ((chr a0 x1_271.toNat) != j15_377)) rfl (p_pick_f c389 rfl rfl rfl) ?_
      obtain rfl:=Option.some.inj h395
      exact DL.weak J388 (Sub.cons rfl (Sub.cons rfl (Sub.cons rfl (Sub.cons rfl (Sub.cons rfl (Sub.cons rfl (Sub.cons rfl (Sub.nil _))))))))
   by_cases c376 : (x14_272 == 0) = true
   ·
    have h382:=ite_true c376 h378
    refine TT.cond_true (x:=sub [1,1,1,1,1,1,1,1,1,0,1,0,0,1,0,0,1,0,1,0] B50) (y:=sub [1,1,1,1,1,1,1,1,1,0,1,0,0,1,0,0,1,0,1,1] B50) rfl c376 ?_
    refine TT.rg [0] [kp] rfl rfl ?_
    refine DL.pu 15 (.int .u8 40) rfl (p_assign rfl rfl) ?_
    refine DL.nil ?_
    obtain rfl:=Option.some.inj h382
    exact TT.weak (J380 ) (Sub.cons rfl (Sub.cons rfl (Sub.cons rfl (Sub.cons rfl (Sub.cons rfl (Sub.cons rfl (Sub.cons rfl (Sub.nil _))))))))
   ·
    replace c376:=Bool.eq_false_iff.mpr c376
    have h383:=ite_false c376 h378
    refine TT.cond_false (x:=sub [1,1,1,1,1,1,1,1,1,0,1,0,0,1,0,0,1,0,1,0] B50) (y:=sub [1,1,1,1,1,1,1,1,1,0,1,0,0,1,0,0,1,0,1,1] B50) rfl c376 ?_
    refine TT.skip ?_
    obtain rfl:=Option.some.inj h383
    exact TT.weak (J380 ) (Sub.cons rfl (Sub.cons rfl (Sub.cons rfl (Sub.cons rfl (Sub.cons rfl (Sub.cons rfl (Sub.cons rfl (Sub.nil _))))))))
  ·
   replace c374:=Bool.eq_false_iff.mpr c374
   have h417:=ite_false c374 h373
   refine TT.cond_false (x:=sub [1,1,1,1,1,1,1,1,1,0,1,0,0,0,1,0] B50) (y:=sub [1,1,1,1,1,1,1,1,1,0,1,0,0,0,1,1] B50) rfl c374 ?_
   refine TT.exit rfl ?_
   obtain rfl:=Option.some.inj h417
   exact TT.weak (hk M I hE hx y_270_v y_270_c ho_y_270) (Sub.cons rfl (Sub.cons rfl (Sub.cons rfl (Sub.cons rfl (Sub.nil _)))))

def ref29_read.F (r_ref29_read : (List UInt8) → Int → Int → Option (Tm × Int × Int)) (a0 : List UInt8) (a1 : Int) (a2 : Int) : Option (Tm × Int × Int):=if (decide ((IntKind.i64.wrap (a2 - 1)) < 0)) = true then (some (Tm.mk 0 0 ([] : List Tm),(-1),IntKind.i64.wrap (a2 - 1))) else ((ref29_read.L0 a0 (a0.length + 1) a1).bind fun z1_83 => (ref29_read.L1 a0 a1 z1_83 10 1 0).bind fun z_b114_0_197 => if (z_b114_0_197 == 0) = true then (some (Tm.mk z_b114_0_197 0 ([] : List Tm),(-1),IntKind.i64.wrap (a2 - 1))) else (if (decide (z_b114_0_197 ≤ 2)) = true then ((ref29_number.f a0 z1_83).bind fun t236 => (if (t236 == z1_83) = true then (some true) else (nm (decide ((IntKind.i64.wrap (z1_83 + 19)) < t236)) fun t247 => some t247)).bind fun q240 => if q240 = true then (some (Tm.mk z_b114_0_197 0 ([] : List Tm),(-1),IntKind.i64.wrap (a2 - 1))) else (req (0 ≤ z1_83) (req (z1_83 ≤ t236) (req (t236 ≤ (a0.length : Int)) (nm ((a0.drop z1_83.toNat).take (t236.toNat - z1_83.toNat)) fun t259 => (ref29_natural.f t259 9223372036854775807).bind fun (t262_0,t262_1) => if (!t262_1) = true then (some (Tm.mk z_b114_0_197 (IntKind.i64.wrap t262_0) ([] : List Tm),(-1),IntKind.i64.wrap (a2 - 1))) else (some (Tm.mk z_b114_0_197 (IntKind.i64.wrap t262_0) ([] : List Tm),t236,IntKind.i64.wrap (a2 - 1)))))))) else (onw (ref29_read.L2 r_ref29_read a0 z_b114_0_197 3 ([] : List Tm) z1_83 0 (IntKind.i64.wrap (a2 - 1))) (fun (z_o269_368,z1_369,z_a2_b_370) => (if (decide ((a0.length : Int) ≤ z1_369)) = true then (some true) else (req (0 ≤ z1_369) (req (z1_369 < (a0.length : Int)) (some ((chr a0 z1_369.toNat) != 41))))).bind fun q425 => if q425 = true then (some (Tm.mk z_b114_0_197 0 z_o269_368,(-1),z_a2_b_370)) else (some (Tm.mk z_b114_0_197 0 z_o269_368,IntKind.i64.wrap (z1_369 + 1),z_a2_b_370))) (fun r => some r))))
set_option maxRecDepth 20000 in
theorem ref29_read.okF {r_ref29_read : (List UInt8) → Int → Int → Option (Tm × Int × Int)} (hr_ref29_read : ref29_read.Rec r_ref29_read) {a0 : List UInt8} {a1 : Int} {a2 : Int} {a2_b : Nat} {r_0 : Tm} {r_1 : Int} {r_h : Int} (h : ref29_read.F r_ref29_read a0 a1 a2 = some (r_0,r_1,r_h)) {M : Mem} (w : World) (hM : Ext M (heapOf w)) (hX : ∀ b,(some a2_b) = some b → w.heap[b]? = some (.cells (#[.int .i64 a2]) 3 (0,0))) (hXM : ∀ b,(some a2_b) = some b → M b = none) : Calls Tryd.prog 50 #[str a0,.int .i64 a1,ptr a2_b 0] w (PostX (G:=Value) (fun g => .tuple #[.agg (Tm.ce r_0 g),.int .i64 r_1]) (fun g M_ => (RowS ShTm M_ g (Tree.kids r_0))) (fun g => (some a2_b)) (fun g => .cells (#[.int .i64 r_h]) 3 (0,0)) (some a2_b) M w):=by
 unfold ref29_read.F at h
 have hE:=Env.startX hM hXM
 refine calls_of_TTX (x:=(some a2_b)) (o:=.cells (#[.int .i64 a2]) 3 (0,0)) (N:=153) (S:=[(0,str a0),(1,.int .i64 a1),(2,ptr a2_b 0)]) (c:=B50) hX Tryd.func50 rfl rfl rfl (by simp) ?_
 show TT _ _ _ _ _ _ [.code (sub [] B50)] _ _
 refine TT.seq (x:=sub [0] B50) (y:=sub [1] B50) ?_
 refine TT.rg [0,1] [(.alloc,none),kp] rfl rfl ?_
 refine DL.new (ob:=.cells (#[.int .i64 0,.int .i64 0,(.slice none 0 0)]) 25) (mk:=fun b => ptr b 0) (i:=0) rfl (Wn.none rfl) rfl rfl rfl (f_alloc ty_z25 rfl) ?_
 intro b1 hb1
 refine DL.pu 7 (.int .i64 0) rfl (p_assign rfl rfl) ?_
 refine DL.nil ?_
 refine TT.seq (x:=sub [1,0] B50) (y:=sub [1,1] B50) ?_
 refine TT.rg [0,1,2,3,4,5,6] [kp,kp,kp,kq,kp,kp,(.store,none)] rfl rfl ?_
 refine DL.mv 18 (ptr a2_b 0) rfl rfl rfl ?_
 refine DL.mv 19 (ptr a2_b 0) rfl rfl rfl ?_
 refine DL.pu 20 (ptr a2_b 0) rfl (p_nilCheck rfl rfl) ?_
 refine DL.qu 21 (.int .i64 a2) rfl (f_load (j:=1) ty_a3 rfl rfl rfl rfl) ?_
 refine DL.pu 22 (.int .i64 (IntKind.i64.wrap (a2 - 1))) rfl (p_sub rfl rfl rfl) ?_
 refine DL.pu 23 (ptr a2_b 0) rfl (p_nilCheck rfl rfl) ?_
 refine DL.put (H':=[(some b1,.cells (#[.int .i64 0,.int .i64 0,(.slice none 0 0)]) 25 (0,0)),(some a2_b,.cells (#[.int .i64 (IntKind.i64.wrap (a2 - 1))]) 3 (0,0))]) (i:=6) rfl (Wn.none rfl) rfl rfl (f_store (c:=#[.int .i64 a2]) (v:=.int .i64 (IntKind.i64.wrap (a2 - 1))) (off:=0) (j:=1) ty_s3 rfl rfl (of_decide_eq_true rfl) trivial rfl rfl rfl) (keep_none rfl) ?_
 refine DL.nil ?_
 refine TT.seq (x:=sub [1,1,0] B50) (y:=sub [1,1,1] B50) ?_
 refine TT.seq (x:=sub [1,1,0,0] B50) (y:=sub [1,1,0,1] B50) ?_
 refine TT.rg [0,1,2,3] [kp,kp,kq,kp] rfl rfl ?_
 refine DL.mv 24 (ptr a2_b 0) rfl rfl rfl ?_
 refine DL.pu 25 (ptr a2_b 0) rfl (p_nilCheck rfl rfl) ?_
 refine DL.qu 26 (.int .i64 (IntKind.i64.wrap (a2 - 1))) rfl (f_load (j:=1) ty_a3 rfl rfl rfl rfl) ?_
 refine DL.pu 27 (.bool (decide ((IntKind.i64.wrap (a2 - 1)) < 0))) rfl (p_lss rfl rfl rfl) ?_
 refine DL.nil ?_
 by_cases c2 : (decide ((IntKind.i64.wrap (a2 - 1)) < 0)) = true
 ·
  have h3:=ite_true c2 h
  refine TT.cond_true (x:=sub [1,1,0,1,0] B50) (y:=sub [1,1,0,1,1] B50) rfl c2 ?_
  refine TT.seq (x:=sub [1,1,0,1,0,0] B50) (y:=sub [1,1,0,1,0,1] B50) ?_
  refine TT.rg [0,1,2] [kp,(.store,none),kp] rfl rfl ?_
  refine DL.pu 28 (.agg #[.int .i64 0,.int .i64 0,(.slice none 0 0)]) rfl (p_build (vs:=[]) (fun w => by kernel_rfl) rfl rfl) ?_
  refine DL.put (H':=[(some b1,.cells (#[.int .i64 0,.int .i64 0,(.slice none 0 0)]) 25 (0,0)),(some a2_b,.cells (#[.int .i64 (IntKind.i64.wrap (a2 - 1))]) 3 (0,0))]) (i:=1) rfl (Wn.none rfl) rfl rfl (f_storeA (j:=0) ty_s25 rfl rfl rfl (one_cons trivial (one_cons trivial (one_cons (sl_one (RowS.sl (RowS.nil ShTm M))) one_nil))) rfl rfl rfl) (keep_none rfl) ?_
  refine DL.pu 7 (.int .i64 (-1)) rfl (p_assign rfl rfl) ?_
  refine DL.nil ?_
  simp only [Option.some.injEq,Prod.mk.injEq] at h3
  obtain ⟨rfl,rfl,rfl⟩:=h3
  exact retX (rs:=[.cell 6 25,.tmp 7]) (vs:=[.agg #[.int .i64 0,.int .i64 0,(.slice none 0 0)],.int .i64 (-1)]) (j:=1) (.slice none 0 0) hE Tryd.func50 rfl rfl rfl (res_cons (ResV.cell (j:=0) ty_a25 ty_s25 rfl rfl rfl) (res_cons (ResV.tmp rfl) res_nil)) rfl (RowS.nil ShTm M)
 ·
  replace c2:=Bool.eq_false_iff.mpr c2
  have h4:=ite_false c2 h
  refine TT.cond_false (x:=sub [1,1,0,1,0] B50) (y:=sub [1,1,0,1,1] B50) rfl c2 ?_
  refine TT.skip ?_
  refine TT.seq (x:=sub [1,1,1,0] B50) (y:=sub [1,1,1,1] B50) ?_
  refine TT.rg [0,1] [kp,kp] rfl rfl ?_
  refine DL.mv 29 (.int .i64 a1) rfl rfl rfl ?_
  refine DL.pu 8 (.int .i64 a1) rfl (p_assign rfl rfl) ?_
  refine DL.nil ?_
  refine TT.seq (x:=sub [1,1,1,1,0] B50) (y:=sub [1,1,1,1,1] B50) ?_
  refine TT.block (c:=sub [1,1,1,1,0,0] B50) ?_
  refine TT.loop (c:=sub [1,1,1,1,0,0,0] B50) ?_
  obtain ⟨z1_83,h111,h112⟩:=bind_some h4
  refine TT.weak (ref29_read.L0_ok a0 a1 a2 a2_b b1 hE (a0.length + 1) a1 z1_83 h111 ( ?_)) (Sub.cons rfl (Sub.cons rfl (Sub.cons rfl (Sub.cons rfl (Sub.cons rfl (Sub.nil _))))))
  refine TT.seq (x:=sub [1,1,1,1,1,0] B50) (y:=sub [1,1,1,1,1,1] B50) ?_
  refine TT.rg [0,1,2] [kp,(.alloc,none),(.store,none)] rfl rfl ?_
  refine DL.pu 48 (.agg #[.int .i64 0,.int .i64 0,(.slice none 0 0)]) rfl (p_build (vs:=[]) (fun w => by kernel_rfl) rfl rfl) ?_
  refine DL.new (ob:=.cells (#[.int .i64 0,.int .i64 0,(.slice none 0 0)]) 25) (mk:=fun b => ptr b 0) (i:=1) rfl (Wn.none rfl) rfl rfl rfl (f_alloc ty_z25 rfl) ?_
  intro b114 hb114
  refine DL.put (H':=[(some b114,.cells (#[.int .i64 0,.int .i64 0,(.slice none 0 0)]) 25 (0,0)),(some b1,.cells (#[.int .i64 0,.int .i64 0,(.slice none 0 0)]) 25 (0,0)),(some a2_b,.cells (#[.int .i64 (IntKind.i64.wrap (a2 - 1))]) 3 (0,0))]) (i:=2) rfl (Wn.none rfl) rfl rfl (f_storeA (j:=0) ty_s25 rfl rfl rfl (one_cons trivial (one_cons trivial (one_cons (sl_one (RowS.sl (RowS.nil ShTm M))) one_nil))) rfl rfl rfl) (keep_none rfl) ?_
  refine DL.nil ?_
  refine TT.seq (x:=sub [1,1,1,1,1,1,0] B50) (y:=sub [1,1,1,1,1,1,1] B50) ?_
  refine TT.seq (x:=sub [1,1,1,1,1,1,0,0] B50) (y:=sub [1,1,1,1,1,1,0,1] B50) ?_
  refine TT.rg [0] [kp] rfl rfl ?_
  refine DL.pu 10 (.int .i64 1) rfl (p_assign rfl rfl) ?_
  refine DL.nil ?_
  refine TT.block (c:=sub [1,1,1,1,1,1,0,1,0] B50) ?_
  refine TT.loop (c:=sub [1,1,1,1,1,1,0,1,0,0] B50) ?_
  obtain ⟨z_b114_0_197,h228,h229⟩:=bind_some h112
  refine TT.weak (ref29_read.L1_ok a0 a1 a2 a2_b b1 z1_83 b114 10 M (I0 (some a2_b) w) hE (Ext.refl _) 1 0 z_b114_0_197 h228 (fun M230 I230 hE230 hx230 => ?_)) (Sub.cons rfl (Sub.cons rfl (Sub.cons rfl (Sub.cons rfl (Sub.cons rfl (Sub.cons rfl (Sub.cons rfl (Sub.nil _))))))))
  refine TT.seq (x:=sub [1,1,1,1,1,1,1,0] B50) (y:=sub [1,1,1,1,1,1,1,1] B50) ?_
  refine TT.seq (x:=sub [1,1,1,1,1,1,1,0,0] B50) (y:=sub [1,1,1,1,1,1,1,0,1] B50) ?_
  refine TT.rg [0,1,2] [kp,kq,kp] rfl rfl ?_
  refine DL.pu 64 (ptr b114 0) rfl (p_fieldAddr ty_f25_0 rfl rfl) ?_
  refine DL.qu 65 (.int .i64 z_b114_0_197) rfl (f_load (j:=0) ty_a23 rfl rfl rfl rfl) ?_
  refine DL.pu 66 (.bool (z_b114_0_197 == 0)) rfl (p_eql rfl rfl rfl) ?_
  refine DL.nil ?_
  by_cases c231 : (z_b114_0_197 == 0) = true
  ·
   have h232:=ite_true c231 h229
   refine TT.cond_true (x:=sub [1,1,1,1,1,1,1,0,1,0] B50) (y:=sub [1,1,1,1,1,1,1,0,1,1] B50) rfl c231 ?_
   refine TT.seq (x:=sub [1,1,1,1,1,1,1,0,1,0,0] B50) (y:=sub [1,1,1,1,1,1,1,0,1,0,1] B50) ?_
   refine TT.rg [0,1,2] [kq,(.store,none),kp] rfl rfl ?_
   refine DL.qu 67 (.agg #[.int .i64 z_b114_0_197,.int .i64 0,(.slice none 0 0)]) rfl (f_loadA (j:=0) ty_a25 ty_s25 rfl rfl rfl rfl) ?_
   refine DL.put (H':=[(some b114,.cells (#[.int .i64 z_b114_0_197,.int .i64 0,(.slice none 0 0)]) 25 (0,0)),(some b1,.cells (#[.int .i64 z_b114_0_197,.int .i64 0,(.slice none 0 0)]) 25 (0,0)),(some a2_b,.cells (#[.int .i64 (IntKind.i64.wrap (a2 - 1))]) 3 (0,0))]) (i:=1) rfl (Wn.none rfl) rfl rfl (f_storeA (j:=1) ty_s25 rfl rfl rfl (one_cons trivial (one_cons trivial (one_cons (sl_one (RowS.sl (RowS.nil ShTm M230))) one_nil))) rfl rfl rfl) (keep_none rfl) ?_
   refine DL.pu 7 (.int .i64 (-1)) rfl (p_assign rfl rfl) ?_
   refine DL.nil ?_
   simp only [Option.some.injEq,Prod.mk.injEq] at h232
   obtain ⟨rfl,rfl,rfl⟩:=h232
   exact retX (rs:=[.cell 6 25,.tmp 7]) (vs:=[.agg #[.int .i64 z_b114_0_197,.int .i64 0,(.slice none 0 0)],.int .i64 (-1)]) (j:=2) (.slice none 0 0) hE230 Tryd.func50 rfl rfl rfl (res_cons (ResV.cell (j:=1) ty_a25 ty_s25 rfl rfl rfl) (res_cons (ResV.tmp rfl) res_nil)) rfl (RowS.nil ShTm M230)
  ·
   replace c231:=Bool.eq_false_iff.mpr c231
   have h233:=ite_false c231 h229
   refine TT.cond_false (x:=sub [1,1,1,1,1,1,1,0,1,0] B50) (y:=sub [1,1,1,1,1,1,1,0,1,1] B50) rfl c231 ?_
   refine TT.skip ?_
   refine TT.seq (x:=sub [1,1,1,1,1,1,1,1,0] B50) (y:=sub [1,1,1,1,1,1,1,1,1] B50) ?_
   refine TT.seq (x:=sub [1,1,1,1,1,1,1,1,0,0] B50) (y:=sub [1,1,1,1,1,1,1,1,0,1] B50) ?_
   refine TT.rg [0,1,2] [kp,kq,kp] rfl rfl ?_
   refine DL.pu 68 (ptr b114 0) rfl (p_fieldAddr ty_f25_0 rfl rfl) ?_
   refine DL.qu 69 (.int .i64 z_b114_0_197) rfl (f_load (j:=0) ty_a23 rfl rfl rfl rfl) ?_
   refine DL.pu 70 (.bool (decide (z_b114_0_197 ≤ 2))) rfl (p_leq rfl rfl rfl) ?_
   refine DL.nil ?_
   by_cases c234 : (decide (z_b114_0_197 ≤ 2)) = true
   ·
    have h235:=ite_true c234 h233
    refine TT.cond_true (x:=sub [1,1,1,1,1,1,1,1,0,1,0] B50) (y:=sub [1,1,1,1,1,1,1,1,0,1,1] B50) rfl c234 ?_
    refine TT.seq (x:=sub [1,1,1,1,1,1,1,1,0,1,0,0] B50) (y:=sub [1,1,1,1,1,1,1,1,0,1,0,1] B50) ?_
    refine TT.rg [0,1,2,3] [kp,kp,kq,kp] rfl rfl ?_
    refine DL.mv 71 (str a0) rfl rfl rfl ?_
    refine DL.mv 72 (.int .i64 z1_83) rfl rfl rfl ?_
    obtain ⟨t236,h237,h238⟩:=bind_some h235
    refine DL.qu 73 (.int .i64 t236) rfl (f_callR rfl rfl (args_val (vs:=[str a0,.int .i64 z1_83]) rfl) (fun w => enter72 _ w) (fun w hc => ref29_number.val h237 (M:=M230) w (hE230.ext hc) )) ?_
    refine DL.pu 11 (.int .i64 t236) rfl (p_assign rfl rfl) ?_
    refine DL.nil ?_
    refine TT.seq (x:=sub [1,1,1,1,1,1,1,1,0,1,0,1,0] B50) (y:=sub [1,1,1,1,1,1,1,1,0,1,0,1,1] B50) ?_
    refine TT.seq (x:=sub [1,1,1,1,1,1,1,1,0,1,0,1,0,0] B50) (y:=sub [1,1,1,1,1,1,1,1,0,1,0,1,0,1] B50) ?_
    refine TT.rg [0,1,2,3,4,5,6,7,8] [kp,kp,kp,kp,kp,kp,kp,kp,kp] rfl rfl ?_
    refine DL.mv 74 (.int .i64 t236) rfl rfl rfl ?_
    refine DL.mv 75 (.int .i64 z1_83) rfl rfl rfl ?_
    refine DL.pu 76 (.bool (t236 == z1_83)) rfl (p_eql rfl rfl rfl) ?_
    refine DL.mv 77 (.bool (t236 == z1_83)) rfl rfl rfl ?_
    obtain ⟨q240,h241,h242⟩:=bind_some h238
    refine DL.cut [(0,str a0),(1,.int .i64 z1_83),(6,ptr b1 0),(9,ptr b114 0),(11,.int .i64 t236),(82,.bool q240)] [] ?_ (fun J243 => ?_)
    ·
     refine DL.nil ?_
     by_cases c250 : q240 = true
     ·
      have h251:=ite_true c250 h242
      refine TT.cond_true (x:=sub [1,1,1,1,1,1,1,1,0,1,0,1,0,1,0] B50) (y:=sub [1,1,1,1,1,1,1,1,0,1,0,1,0,1,1] B50) rfl c250 ?_
      refine TT.seq (x:=sub [1,1,1,1,1,1,1,1,0,1,0,1,0,1,0,0] B50) (y:=sub [1,1,1,1,1,1,1,1,0,1,0,1,0,1,0,1] B50) ?_
      refine TT.rg [0,1,2] [kq,(.store,none),kp] rfl rfl ?_
      refine DL.qu 83 (.agg #[.int .i64 z_b114_0_197,.int .i64 0,(.slice none 0 0)]) rfl (f_loadA (j:=0) ty_a25 ty_s25 rfl rfl rfl rfl) ?_
      refine DL.put (H':=[(some b114,.cells (#[.int .i64 z_b114_0_197,.int .i64 0,(.slice none 0 0)]) 25 (0,0)),(some b1,.cells (#[.int .i64 z_b114_0_197,.int .i64 0,(.slice none 0 0)]) 25 (0,0)),(some a2_b,.cells (#[.int .i64 (IntKind.i64.wrap (a2 - 1))]) 3 (0,0))]) (i:=1) rfl (Wn.none rfl) rfl rfl (f_storeA (j:=1) ty_s25 rfl rfl rfl (one_cons trivial (one_cons trivial (one_cons (sl_one (RowS.sl (RowS.nil ShTm M230))) one_nil))) rfl rfl rfl) (keep_none rfl) ?_
      refine DL.pu 7 (.int .i64 (-1)) rfl (p_assign rfl rfl) ?_
      refine DL.nil ?_
      simp only [Option.some.injEq,Prod.mk.injEq] at h251
      obtain ⟨rfl,rfl,rfl⟩:=h251
      exact retX (rs:=[.cell 6 25,.tmp 7]) (vs:=[.agg #[.int .i64 z_b114_0_197,.int .i64 0,(.slice none 0 0)],.int .i64 (-1)]) (j:=2) (.slice none 0 0) hE230 Tryd.func50 rfl rfl rfl (res_cons (ResV.cell (j:=1) ty_a25 ty_s25 rfl rfl rfl) (res_cons (ResV.tmp rfl) res_nil)) rfl (RowS.nil ShTm M230)
     ·
      replace c250:=Bool.eq_false_iff.mpr c250
      have h252:=ite_false c250 h242
      refine TT.cond_false (x:=sub [1,1,1,1,1,1,1,1,0,1,0,1,0,1,0] B50) (y:=sub [1,1,1,1,1,1,1,1,0,1,0,1,0,1,1] B50) rfl c250 ?_
      refine TT.skip ?_
      refine TT.seq (x:=sub [1,1,1,1,1,1,1,1,0,1,0,1,1,0] B50) (y:=sub [1,1,1,1,1,1,1,1,0,1,0,1,1,1] B50) ?_
      refine TT.rg [0,1,2,3,4,5,6,7,8,9] [kp,kp,kp,kp,kq,kp,kp,kp,kp,kp] rfl rfl ?_
      refine DL.mv 85 (str a0) rfl rfl rfl ?_
      refine DL.mv 86 (.int .i64 z1_83) rfl rfl rfl ?_
      refine DL.mv 87 (.int .i64 t236) rfl rfl rfl ?_
      obtain ⟨g253,h254⟩:=req_some h252
      obtain ⟨g255,h256⟩:=req_some h254
      obtain ⟨g257,h258⟩:=req_some h256
      obtain ⟨t259,e260,h261⟩:=nm_some h258
      refine DL.pu 88 (str t259) rfl (by rw [e260]; exact p_strSubLH ty_u9 g253 g255 g257 rfl rfl rfl rfl) ?_
      obtain ⟨⟨t262_0,t262_1⟩,h263,h264⟩:=bind_some h261
      refine DL.qu 89 (.tuple #[.int .u64 t262_0,.bool t262_1]) rfl (f_callR rfl rfl (args_val (vs:=[str t259,.int .u64 9223372036854775807]) rfl) (fun w => enter73 _ w) (fun w hc => ref29_natural.val h263 (M:=M230) w (hE230.ext hc) )) ?_
      refine DL.mv 84 (.tuple #[.int .u64 t262_0,.bool t262_1]) rfl rfl rfl ?_
      refine DL.pu 90 (.int .u64 t262_0) rfl (p_extract rfl rfl rfl) ?_
      refine DL.pu 91 (.bool t262_1) rfl (p_extract rfl rfl rfl) ?_
      refine DL.pu 12 (.int .u64 t262_0) rfl (p_assign rfl rfl) ?_
      refine DL.pu 13 (.bool t262_1) rfl (p_assign rfl rfl) ?_
      refine DL.nil ?_
      refine TT.seq (x:=sub [1,1,1,1,1,1,1,1,0,1,0,1,1,1,0] B50) (y:=sub [1,1,1,1,1,1,1,1,0,1,0,1,1,1,1] B50) ?_
      refine TT.rg [0,1,2,3] [kp,kp,kp,(.store,none)] rfl rfl ?_
      refine DL.mv 92 (.int .u64 t262_0) rfl rfl rfl ?_
      refine DL.pu 93 (.int .i64 (IntKind.i64.wrap t262_0)) rfl (p_conv ty_u99 ty_u3 ⟨_,rfl⟩ rfl rfl) ?_
      refine DL.pu 94 (ptr b114 1) rfl (p_fieldAddr ty_f25_1 rfl rfl) ?_
      refine DL.put (H':=[(some b114,.cells (#[.int .i64 z_b114_0_197,.int .i64 (IntKind.i64.wrap t262_0),(.slice none 0 0)]) 25 (0,0)),(some b1,.cells (#[.int .i64 0,.int .i64 0,(.slice none 0 0)]) 25 (0,0)),(some a2_b,.cells (#[.int .i64 (IntKind.i64.wrap (a2 - 1))]) 3 (0,0))]) (i:=3) rfl (Wn.none rfl) rfl rfl (f_store (c:=#[.int .i64 z_b114_0_197,.int .i64 0,(.slice none 0 0)]) (v:=.int .i64 (IntKind.i64.wrap t262_0)) (off:=1) (j:=0) ty_s3 rfl rfl (of_decide_eq_true rfl) trivial rfl rfl rfl) (keep_none rfl) ?_
      refine DL.nil ?_
      refine TT.seq (x:=sub [1,1,1,1,1,1,1,1,0,1,0,1,1,1,1,0] B50) (y:=sub [1,1,1,1,1,1,1,1,0,1,0,1,1,1,1,1] B50) ?_
      refine TT.seq (x:=sub [1,1,1,1,1,1,1,1,0,1,0,1,1,1,1,0,0] B50) (y:=sub [1,1,1,1,1,1,1,1,0,1,0,1,1,1,1,0,1] B50) ?_
      refine TT.rg [0,1] [kp,kp] rfl rfl ?_
      refine DL.mv 95 (.bool t262_1) rfl rfl rfl ?_
      refine DL.pu 96 (.bool (!t262_1)) rfl (p_not rfl rfl) ?_
      refine DL.nil ?_
      by_cases c265 : (!t262_1) = true
      ·
       have h266:=ite_true c265 h264
       refine TT.cond_true (x:=sub [1,1,1,1,1,1,1,1,0,1,0,1,1,1,1,0,1,0] B50) (y:=sub [1,1,1,1,1,1,1,1,0,1,0,1,1,1,1,0,1,1] B50) rfl c265 ?_
       refine TT.seq (x:=sub [1,1,1,1,1,1,1,1,0,1,0,1,1,1,1,0,1,0,0] B50) (y:=sub [1,1,1,1,1,1,1,1,0,1,0,1,1,1,1,0,1,0,1] B50) ?_
       refine TT.rg [0,1,2] [kq,(.store,none),kp] rfl rfl ?_
       refine DL.qu 97 (.agg #[.int .i64 z_b114_0_197,.int .i64 (IntKind.i64.wrap t262_0),(.slice none 0 0)]) rfl (f_loadA (j:=0) ty_a25 ty_s25 rfl rfl rfl rfl) ?_
       refine DL.put (H':=[(some b114,.cells (#[.int .i64 z_b114_0_197,.int .i64 (IntKind.i64.wrap t262_0),(.slice none 0 0)]) 25 (0,0)),(some b1,.cells (#[.int .i64 z_b114_0_197,.int .i64 (IntKind.i64.wrap t262_0),(.slice none 0 0)]) 25 (0,0)),(some a2_b,.cells (#[.int .i64 (IntKind.i64.wrap (a2 - 1))]) 3 (0,0))]) (i:=1) rfl (Wn.none rfl) rfl rfl (f_storeA (j:=1) ty_s25 rfl rfl rfl (one_cons trivial (one_cons trivial (one_cons (sl_one (RowS.sl (RowS.nil ShTm M230))) one_nil))) rfl rfl rfl) (keep_none rfl) ?_
       refine DL.pu 7 (.int .i64 (-1)) rfl (p_assign rfl rfl) ?_
       refine DL.nil ?_
       simp only [Option.some.injEq,Prod.mk.injEq] at h266
       obtain ⟨rfl,rfl,rfl⟩:=h266
       exact retX (rs:=[.cell 6 25,.tmp 7]) (vs:=[.agg #[.int .i64 z_b114_0_197,.int .i64 (IntKind.i64.wrap t262_0),(.slice none 0 0)],.int .i64 (-1)]) (j:=2) (.slice none 0 0) hE230 Tryd.func50 rfl rfl rfl (res_cons (ResV.cell (j:=1) ty_a25 ty_s25 rfl rfl rfl) (res_cons (ResV.tmp rfl) res_nil)) rfl (RowS.nil ShTm M230)
      ·
       replace c265:=Bool.eq_false_iff.mpr c265
       have h267:=ite_false c265 h264
       refine TT.cond_false (x:=sub [1,1,1,1,1,1,1,1,0,1,0,1,1,1,1,0,1,0] B50) (y:=sub [1,1,1,1,1,1,1,1,0,1,0,1,1,1,1,0,1,1] B50) rfl c265 ?_
       refine TT.skip ?_
       refine TT.seq (x:=sub [1,1,1,1,1,1,1,1,0,1,0,1,1,1,1,1,0] B50) (y:=sub [1,1,1,1,1,1,1,1,0,1,0,1,1,1,1,1,1] B50) ?_
       refine TT.rg [0,1,2,3] [kq,kp,(.store,none),kp] rfl rfl ?_
       refine DL.qu 98 (.agg #[.int .i64 z_b114_0_197,.int .i64 (IntKind.i64.wrap t262_0),(.slice none 0 0)]) rfl (f_loadA (j:=0) ty_a25 ty_s25 rfl rfl rfl rfl) ?_
       refine DL.mv 99 (.int .i64 t236) rfl rfl rfl ?_
       refine DL.put (H':=[(some b114,.cells (#[.int .i64 z_b114_0_197,.int .i64 (IntKind.i64.wrap t262_0),(.slice none 0 0)]) 25 (0,0)),(some b1,.cells (#[.int .i64 z_b114_0_197,.int .i64 (IntKind.i64.wrap t262_0),(.slice none 0 0)]) 25 (0,0)),(some a2_b,.cells (#[.int .i64 (IntKind.i64.wrap (a2 - 1))]) 3 (0,0))]) (i:=2) rfl (Wn.none rfl) rfl rfl (f_storeA (j:=1) ty_s25 rfl rfl rfl (one_cons trivial (one_cons trivial (one_cons (sl_one (RowS.sl (RowS.nil ShTm M230))) one_nil))) rfl rfl rfl) (keep_none rfl) ?_
       refine DL.pu 7 (.int .i64 t236) rfl (p_assign rfl rfl) ?_
       refine DL.nil ?_
       simp only [Option.some.injEq,Prod.mk.injEq] at h267
       obtain ⟨rfl,rfl,rfl⟩:=h267
       exact retX (rs:=[.cell 6 25,.tmp 7]) (vs:=[.agg #[.int .i64 z_b114_0_197,.int .i64 (IntKind.i64.wrap t262_0),(.slice none 0 0)],.int .i64 t236]) (j:=2) (.slice none 0 0) hE230 Tryd.func50 rfl rfl rfl (res_cons (ResV.cell (j:=1) ty_a25 ty_s25 rfl rfl rfl) (res_cons (ResV.tmp rfl) res_nil)) rfl (RowS.nil ShTm M230)
    ·
     by_cases c244 : (t236 == z1_83) = true
     ·
      have h245:=ite_true c244 h241
      refine DL.not (i:=4) rfl (Wn.yes c244 rfl rfl rfl rfl) rfl rfl ?_
      refine DL.not (i:=5) rfl (Wn.yes c244 rfl rfl rfl rfl) rfl rfl ?_
      refine DL.not (i:=6) rfl (Wn.yes c244 rfl rfl rfl rfl) rfl rfl ?_
      refine DL.not (i:=7) rfl (Wn.yes c244 rfl rfl rfl rfl) rfl rfl ?_
      refine DL.pu 82 (.bool true) rfl (p_pick_t c244 rfl rfl rfl) ?_
      obtain rfl:=Option.some.inj h245
      exact DL.weak J243 (Sub.cons rfl (Sub.cons rfl (Sub.cons rfl (Sub.cons rfl (Sub.cons rfl (Sub.cons rfl (Sub.nil _)))))))
     ·
      replace c244:=Bool.eq_false_iff.mpr c244
      have h246:=ite_false c244 h241
      refine DL.pure (v:=.int .i64 t236) rfl (Wn.no c244 rfl rfl rfl rfl) rfl rfl rfl (p_move rfl rfl) ?_
      refine DL.pure (v:=.int .i64 z1_83) rfl (Wn.no c244 rfl rfl rfl rfl) rfl rfl rfl (p_move rfl rfl) ?_
      refine DL.pure (v:=.int .i64 (IntKind.i64.wrap (z1_83 + 19))) rfl (Wn.no c244 rfl rfl rfl rfl) rfl rfl rfl (p_add rfl rfl rfl) ?_
      obtain ⟨t247,e248,h249⟩:=nm_some h246
      refine DL.pure (v:=.bool t247) rfl (Wn.no c244 rfl rfl rfl rfl) rfl rfl rfl (by rw [e248]; exact p_gtr rfl rfl rfl) ?_
      refine DL.pu 82 (.bool t247) rfl (p_pick_f c244 rfl rfl rfl) ?_
      obtain rfl:=Option.some.inj h249
      exact DL.weak J243 (Sub.cons rfl (Sub.cons rfl (Sub.cons rfl (Sub.cons rfl (Sub.cons rfl (Sub.cons rfl (Sub.nil _)))))))
   ·
    replace c234:=Bool.eq_false_iff.mpr c234
    have h268:=ite_false c234 h233
    refine TT.cond_false (x:=sub [1,1,1,1,1,1,1,1,0,1,0] B50) (y:=sub [1,1,1,1,1,1,1,1,0,1,1] B50) rfl c234 ?_
    refine TT.skip ?_
    refine TT.seq (x:=sub [1,1,1,1,1,1,1,1,1,0] B50) (y:=sub [1,1,1,1,1,1,1,1,1,1] B50) ?_
    refine TT.seq (x:=sub [1,1,1,1,1,1,1,1,1,0,0] B50) (y:=sub [1,1,1,1,1,1,1,1,1,0,1] B50) ?_
    refine TT.rg [0] [kp] rfl rfl ?_
    refine DL.pu 14 (.int .i64 0) rfl (p_assign rfl rfl) ?_
    refine DL.nil ?_
    refine TT.block (c:=sub [1,1,1,1,1,1,1,1,1,0,1,0] B50) ?_
    refine TT.nilOwn (e:=25) ?_
    refine TT.loop (c:=sub [1,1,1,1,1,1,1,1,1,0,1,0,0] B50) ?_
    rcases onw_some h268 with ⟨⟨z_o269_368,z1_369,z_a2_b_370⟩,h418,h419⟩ | ⟨⟨r421,r422,r423⟩,h418,h419⟩
    ·
     refine TT.weak (ref29_read.L2_ok hr_ref29_read a0 a2_b b1 b114 z_b114_0_197 3 M230 I230 hE230 (Ext.refl _) ([] : List Tm) z1_83 0 (IntKind.i64.wrap (a2 - 1)) (.slice none 0 0) (#[]) (.inl (z_o269_368,z1_369,z_a2_b_370)) (OwnS.nil ShTm M230) h418 (fun M420 I420 hE420 hx420 z_o269_368_v z_o269_368_c ho_z_o269_368 => ?_)) (Sub.cons rfl (Sub.cons rfl (Sub.cons rfl (Sub.cons rfl (Sub.cons rfl (Sub.cons rfl (Sub.nil _)))))))
     show TT _ _ _ _ _ _ _ _ _
     refine TT.seq (x:=sub [1,1,1,1,1,1,1,1,1,1,0] B50) (y:=sub [1,1,1,1,1,1,1,1,1,1,1] B50) ?_
     refine TT.seq (x:=sub [1,1,1,1,1,1,1,1,1,1,0,0] B50) (y:=sub [1,1,1,1,1,1,1,1,1,1,0,1] B50) ?_
     refine TT.rg [0,1,2,3,4,5,6,7,8,9] [kp,kp,kp,kp,kp,kp,kp,kp,kp,kp] rfl rfl ?_
     refine DL.mv 139 (.int .i64 z1_369) rfl rfl rfl ?_
     refine DL.mv 140 (str a0) rfl rfl rfl ?_
     refine DL.pu 141 (.int .i64 (a0.length : Int)) rfl (p_strLen ty_u9 rfl rfl) ?_
     refine DL.pu 142 (.bool (decide ((a0.length : Int) ≤ z1_369))) rfl (p_geq rfl rfl rfl) ?_
     refine DL.mv 143 (.bool (decide ((a0.length : Int) ≤ z1_369))) rfl rfl rfl ?_
     obtain ⟨q425,h426,h427⟩:=bind_some h419
     refine DL.cut [(1,.int .i64 z1_369),(6,ptr b1 0),(9,ptr b114 0),(148,.bool q425)] [] ?_ (fun J428 => ?_)
     ·
      refine DL.nil ?_
      by_cases c436 : q425 = true
      ·
       have h437:=ite_true c436 h427
       refine TT.cond_true (x:=sub [1,1,1,1,1,1,1,1,1,1,0,1,0] B50) (y:=sub [1,1,1,1,1,1,1,1,1,1,0,1,1] B50) rfl c436 ?_
       refine TT.seq (x:=sub [1,1,1,1,1,1,1,1,1,1,0,1,0,0] B50) (y:=sub [1,1,1,1,1,1,1,1,1,1,0,1,0,1] B50) ?_
       refine TT.rg [0,1,2] [kq,(.store,none),kp] rfl rfl ?_
       refine DL.qu 149 (.agg #[.int .i64 z_b114_0_197,.int .i64 0,z_o269_368_v]) rfl (f_loadA (j:=1) ty_a25 ty_s25 rfl rfl rfl rfl) ?_
       refine DL.put (H':=[(Value.ownBlock z_o269_368_v,.cells z_o269_368_c 25 (0,0)),(some b114,.cells (#[.int .i64 z_b114_0_197,.int .i64 0,z_o269_368_v]) 25 (0,0)),(some b1,.cells (#[.int .i64 z_b114_0_197,.int .i64 0,z_o269_368_v]) 25 (0,0)),(some a2_b,.cells (#[.int .i64 z_a2_b_370]) 3 (0,0))]) (i:=1) rfl (Wn.none rfl) rfl rfl (f_storeA (j:=2) ty_s25 rfl rfl rfl (one_cons trivial (one_cons trivial (one_cons (sl_one (OwnS.sl ho_z_o269_368)) one_nil))) rfl rfl rfl) (keep_none rfl) ?_
       refine DL.pu 7 (.int .i64 (-1)) rfl (p_assign rfl rfl) ?_
       refine DL.nil ?_
       refine TT.freezeAtX (fun b e => by cases e; exact ⟨3,_,by decide,rfl⟩) (j:=0) hE420 rfl ?_
       intro M438 I438 hE438 hx438 hxI438 hb438
       have hr_438 : RowS ShTm M438 z_o269_368_v z_o269_368:=OwnS.stays ho_z_o269_368 hx438 hb438
       show TT _ _ _ _ _ _ _ _ [(some b114,.cells (#[.int .i64 z_b114_0_197,.int .i64 0,z_o269_368_v]) 25 (0,0)),(some b1,.cells (#[.int .i64 z_b114_0_197,.int .i64 0,z_o269_368_v]) 25 (0,0)),(some a2_b,.cells (#[.int .i64 z_a2_b_370]) 3 (0,0))]
       simp only [Option.some.injEq,Prod.mk.injEq] at h437
       obtain ⟨rfl,rfl,rfl⟩:=h437
       exact retX (rs:=[.cell 6 25,.tmp 7]) (vs:=[.agg #[.int .i64 z_b114_0_197,.int .i64 0,z_o269_368_v],.int .i64 (-1)]) (j:=2) z_o269_368_v hE438 Tryd.func50 rfl rfl rfl (res_cons (ResV.cell (j:=1) ty_a25 ty_s25 rfl rfl rfl) (res_cons (ResV.tmp rfl) res_nil)) rfl hr_438
      ·
       replace c436:=Bool.eq_false_iff.mpr c436
       have h439:=ite_false c436 h427
       refine TT.cond_false (x:=sub [1,1,1,1,1,1,1,1,1,1,0,1,0] B50) (y:=sub [1,1,1,1,1,1,1,1,1,1,0,1,1] B50) rfl c436 ?_
       refine TT.skip ?_
       refine TT.seq (x:=sub [1,1,1,1,1,1,1,1,1,1,1,0] B50) (y:=sub [1,1,1,1,1,1,1,1,1,1,1,1] B50) ?_
       refine TT.rg [0,1,2,3,4] [kq,kp,kp,(.store,none),kp] rfl rfl ?_
       refine DL.qu 150 (.agg #[.int .i64 z_b114_0_197,.int .i64 0,z_o269_368_v]) rfl (f_loadA (j:=1) ty_a25 ty_s25 rfl rfl rfl rfl) ?_
       refine DL.mv 151 (.int .i64 z1_369) rfl rfl rfl ?_
       refine DL.pu 152 (.int .i64 (IntKind.i64.wrap (z1_369 + 1))) rfl (p_add rfl rfl rfl) ?_
       refine DL.put (H':=[(Value.ownBlock z_o269_368_v,.cells z_o269_368_c 25 (0,0)),(some b114,.cells (#[.int .i64 z_b114_0_197,.int .i64 0,z_o269_368_v]) 25 (0,0)),(some b1,.cells (#[.int .i64 z_b114_0_197,.int .i64 0,z_o269_368_v]) 25 (0,0)),(some a2_b,.cells (#[.int .i64 z_a2_b_370]) 3 (0,0))]) (i:=3) rfl (Wn.none rfl) rfl rfl (f_storeA (j:=2) ty_s25 rfl rfl rfl (one_cons trivial (one_cons trivial (one_cons (sl_one (OwnS.sl ho_z_o269_368)) one_nil))) rfl rfl rfl) (keep_none rfl) ?_
       refine DL.pu 7 (.int .i64 (IntKind.i64.wrap (z1_369 + 1))) rfl (p_assign rfl rfl) ?_
       refine DL.nil ?_
       refine TT.freezeAtX (fun b e => by cases e; exact ⟨3,_,by decide,rfl⟩) (j:=0) hE420 rfl ?_
       intro M440 I440 hE440 hx440 hxI440 hb440
       have hr_440 : RowS ShTm M440 z_o269_368_v z_o269_368:=OwnS.stays ho_z_o269_368 hx440 hb440
       show TT _ _ _ _ _ _ _ _ [(some b114,.cells (#[.int .i64 z_b114_0_197,.int .i64 0,z_o269_368_v]) 25 (0,0)),(some b1,.cells (#[.int .i64 z_b114_0_197,.int .i64 0,z_o269_368_v]) 25 (0,0)),(some a2_b,.cells (#[.int .i64 z_a2_b_370]) 3 (0,0))]
       simp only [Option.some.injEq,Prod.mk.injEq] at h439
       obtain ⟨rfl,rfl,rfl⟩:=h439
       exact retX (rs:=[.cell 6 25,.tmp 7]) (vs:=[.agg #[.int .i64 z_b114_0_197,.int .i64 0,z_o269_368_v],.int .i64 (IntKind.i64.wrap (z1_369 + 1))]) (j:=2) z_o269_368_v hE440 Tryd.func50 rfl rfl rfl (res_cons (ResV.cell (j:=1) ty_a25 ty_s25 rfl rfl rfl) (res_cons (ResV.tmp rfl) res_nil)) rfl hr_440
     ·
      by_cases c429 : (decide ((a0.length : Int) ≤ z1_369)) = true
      ·
       have h430:=ite_true c429 h426
       refine DL.not (i:=5) rfl (Wn.yes c429 rfl rfl rfl rfl) rfl rfl ?_
       refine DL.not (i:=6) rfl (Wn.yes c429 rfl rfl rfl rfl) rfl rfl ?_
       refine DL.not (i:=7) rfl (Wn.yes c429 rfl rfl rfl rfl) rfl rfl ?_
       refine DL.not (i:=8) rfl (Wn.yes c429 rfl rfl rfl rfl) rfl rfl ?_
       refine DL.pu 148 (.bool true) rfl (p_pick_t c429 rfl rfl rfl) ?_
       obtain rfl:=Option.some.inj h430
       exact DL.weak J428 (Sub.cons rfl (Sub.cons rfl (Sub.cons rfl (Sub.cons rfl (Sub.nil _)))))
      ·
       replace c429:=Bool.eq_false_iff.mpr c429
       have h431:=ite_false c429 h426
       refine DL.pure (v:=str a0) rfl (Wn.no c429 rfl rfl rfl rfl) rfl rfl rfl (p_move rfl rfl) ?_
       refine DL.pure (v:=.int .i64 z1_369) rfl (Wn.no c429 rfl rfl rfl rfl) rfl rfl rfl (p_move rfl rfl) ?_
       obtain ⟨g432,h433⟩:=req_some h431
       obtain ⟨g434,h435⟩:=req_some h433
       refine DL.pure (v:=.int .u8 (chr a0 z1_369.toNat)) rfl (Wn.no c429 rfl rfl rfl rfl) rfl rfl rfl (p_strIndex ty_u9 g432 g434 rfl rfl rfl) ?_
       refine DL.pure (v:=.bool ((chr a0 z1_369.toNat) != 41)) rfl (Wn.no c429 rfl rfl rfl rfl) rfl rfl rfl (p_neq rfl rfl rfl) ?_
       refine DL.pu 148 (.bool ((chr a0 z1_369.toNat) != 41)) rfl (p_pick_f c429 rfl rfl rfl) ?_
       obtain rfl:=Option.some.inj h435
       exact DL.weak J428 (Sub.cons rfl (Sub.cons rfl (Sub.cons rfl (Sub.cons rfl (Sub.nil _)))))
    ·
     simp only [Option.some.injEq,Prod.mk.injEq] at h419
     obtain ⟨rfl,rfl,rfl⟩:=h419
     exact TT.weak (ref29_read.L2_ok hr_ref29_read a0 a2_b b1 b114 z_b114_0_197 3 M230 I230 hE230 (Ext.refl _) ([] : List Tm) z1_83 0 (IntKind.i64.wrap (a2 - 1)) (.slice none 0 0) (#[]) (.inr (r421,r422,r423)) (OwnS.nil ShTm M230) h418 rfl) (Sub.cons rfl (Sub.cons rfl (Sub.cons rfl (Sub.cons rfl (Sub.cons rfl (Sub.cons rfl (Sub.nil _)))))))
def ref29_read.f : Nat → (List UInt8) → Int → Int → Option (Tm × Int × Int)
 | 0,_,_,_ => none
 | k + 1,a0,a1,a2 => ref29_read.F (ref29_read.f k) a0 a1 a2
theorem ref29_read.rec : ∀ k,ref29_read.Rec (ref29_read.f k):=by
 intro k
 induction k with
 | zero => intro _ _ _ _ _ _ _ h; simp [ref29_read.f] at h
 | succ k ih => intro a0 a1 a2 a2_b r_0 r_1 r_h h M w hM hX hXM; exact ref29_read.okF ih h w hM hX hXM
theorem ref29_read.ok {k : Nat} {a0 : List UInt8} {a1 : Int} {a2 : Int} {a2_b : Nat} {r_0 : Tm} {r_1 : Int} {r_h : Int} (h : ref29_read.f k a0 a1 a2 = some (r_0,r_1,r_h)) {M : Mem} (w : World) (hM : Ext M (heapOf w)) (hX : ∀ b,(some a2_b) = some b → w.heap[b]? = some (.cells (#[.int .i64 a2]) 3 (0,0))) (hXM : ∀ b,(some a2_b) = some b → M b = none) : Calls Tryd.prog 50 #[str a0,.int .i64 a1,ptr a2_b 0] w (PostX (G:=Value) (fun g => .tuple #[.agg (Tm.ce r_0 g),.int .i64 r_1]) (fun g M_ => (RowS ShTm M_ g (Tree.kids r_0))) (fun g => (some a2_b)) (fun g => .cells (#[.int .i64 r_h]) 3 (0,0)) (some a2_b) M w) :=
 ref29_read.rec k h w hM hX hXM

/-! ### escutcheon/escutcheonref29.Of: function 30 -/
noncomputable def B30 : Code:=bodyOf Tryd.f30
def ref29_Of.f (a0 : List UInt8) : Option (Tm × Bool):=(ref29_read.f (a0.length + 2) a0 0 2000).bind fun (t3_0,t3_1,t3_h) => (if (t3_1 != (a0.length : Int)) = true then (some true) else ((ref29_May.f t3_0).bind fun t17 => some (!t17))).bind fun q10 => (if q10 = true then (some true) else ((ref29_Text.f (Tm.fuel t3_0) t3_0).bind fun t28 => some (!(t28 == a0)))).bind fun q21 => if q21 = true then (some (Tm.mk 0 0 ([] : List Tm),false)) else (some (t3_0,true))
set_option maxRecDepth 20000 in
theorem ref29_Of.ok {a0 : List UInt8} {r_0 : Tm} {r_1 : Bool} (h : ref29_Of.f a0 = some (r_0,r_1)) {M : Mem} (w : World) (hM : Ext M (heapOf w)) (hG : Glob M) : Calls Tryd.prog 30 #[str a0] w (PostF (G:=Value) (fun g => .tuple #[.agg (Tm.ce r_0 g),.bool r_1]) (fun g M_ => (RowS ShTm M_ g (Tree.kids r_0))) M w):=by
 unfold ref29_Of.f at h
 have hE:=Env.start hM
 refine calls_of_TT (N:=29) (S:=[(0,str a0)]) (c:=B30) Tryd.func30 rfl rfl rfl (by simp) ?_
 show TT _ _ _ _ _ _ [.code (sub [] B30)] _ _
 refine TT.seq (x:=sub [0] B30) (y:=sub [1] B30) ?_
 refine TT.rg [0,1] [(.alloc,none),kp] rfl rfl ?_
 refine DL.new (ob:=.cells (#[.int .i64 0,.int .i64 0,(.slice none 0 0)]) 25) (mk:=fun b => ptr b 0) (i:=0) rfl (Wn.none rfl) rfl rfl rfl (f_alloc ty_z25 rfl) ?_
 intro b1 hb1
 refine DL.pu 3 (.bool false) rfl (p_assign rfl rfl) ?_
 refine DL.nil ?_
 refine TT.seq (x:=sub [1,0] B30) (y:=sub [1,1] B30) ?_
 refine TT.rg [0,1] [(.alloc,none),(.store,none)] rfl rfl ?_
 refine DL.new (ob:=.cells (#[.int .i64 0]) 3) (mk:=fun b => ptr b 0) (i:=0) rfl (Wn.none rfl) rfl rfl rfl (f_alloc ty_z3 rfl) ?_
 intro b2 hb2
 refine DL.put (H':=[(some b2,.cells (#[.int .i64 2000]) 3 (0,0)),(some b1,.cells (#[.int .i64 0,.int .i64 0,(.slice none 0 0)]) 25 (0,0))]) (i:=1) rfl (Wn.none rfl) rfl rfl (f_store (c:=#[.int .i64 0]) (v:=.int .i64 2000) (off:=0) (j:=0) ty_s3 rfl rfl (of_decide_eq_true rfl) trivial rfl rfl rfl) (keep_none rfl) ?_
 refine DL.nil ?_
 refine TT.seq (x:=sub [1,1,0] B30) (y:=sub [1,1,1] B30) ?_
 refine TT.rg [0,1,2,3,4,5,6,7] [kp,kx,kp,kp,kp,(.alloc,none),(.store,none),kp] rfl rfl ?_
 refine DL.mv 8 (str a0) rfl rfl rfl ?_
 obtain ⟨⟨t3_0,t3_1,t3_h⟩,h4,h5⟩:=bind_some h
 refine DL.callX (G:=Value) (u:=fun g => .tuple #[.agg (Tm.ce t3_0 g),.int .i64 t3_1]) (Q:=fun g M_ => (RowS ShTm M_ g (Tree.kids t3_0))) (r':=fun g => (some b2)) (o':=fun g => .cells (#[.int .i64 t3_h]) 3 (0,0)) (A:=[(some b2,.cells (#[.int .i64 2000]) 3 (0,0)),(some b1,.cells (#[.int .i64 0,.int .i64 0,(.slice none 0 0)]) 25 (0,0))]) (J:=[]) (j:=0) (fun r_6 o_6 J6 => ((r_6,o_6) :: (some b1,.cells (#[.int .i64 0,.int .i64 0,(.slice none 0 0)]) 25 (0,0)) :: J6)) (Nat.le_refl _) hE.nil (List.append_nil _).symm rfl (fun _ _ _ => rfl) (by simp) (i:=1) rfl (Wn.none rfl) rfl rfl rfl rfl rfl rfl (args_val (vs:=[str a0,.int .i64 0,ptr b2 0]) rfl) (fun w => enter50 _ w) (fun w hc hI hx_ hm_ => ref29_read.ok h4 (M:=M) w hI  hx_ hm_) ?_
 rintro t3_0_2 M6 J6 hE6 hx6 hr_t3_0_2
 show DL _ _ _ _ _ _ _ _ _ _ _ _ ((some b2,.cells (#[.int .i64 t3_h]) 3 (0,0)) :: (some b1,.cells (#[.int .i64 0,.int .i64 0,(.slice none 0 0)]) 25 (0,0)) :: J6)
 refine DL.mv 7 (.tuple #[.agg (Tm.ce t3_0 t3_0_2),.int .i64 t3_1]) rfl rfl rfl ?_
 refine DL.pu 10 (.agg (Tm.ce t3_0 t3_0_2)) rfl (p_extract rfl rfl rfl) ?_
 refine DL.pu 11 (.int .i64 t3_1) rfl (p_extract rfl rfl rfl) ?_
 refine DL.new (ob:=.cells (#[.int .i64 0,.int .i64 0,(.slice none 0 0)]) 25) (mk:=fun b => ptr b 0) (i:=5) rfl (Wn.none rfl) rfl rfl rfl (f_alloc ty_z25 rfl) ?_
 intro b7 hb7
 refine DL.put (H':=((some b7,.cells ((Tm.ce t3_0 t3_0_2)) 25 (0,0)) :: (some b2,.cells (#[.int .i64 t3_h]) 3 (0,0)) :: (some b1,.cells (#[.int .i64 0,.int .i64 0,(.slice none 0 0)]) 25 (0,0)) :: J6)) (i:=6) rfl (Wn.none rfl) rfl rfl (f_storeA (j:=0) ty_s25 rfl rfl rfl (one_cons trivial (one_cons trivial (one_cons (sl_one (RowS.sl hr_t3_0_2)) one_nil))) rfl rfl rfl) (keep_none rfl) ?_
 refine DL.pu 6 (.int .i64 t3_1) rfl (p_assign rfl rfl) ?_
 refine DL.nil ?_
 refine TT.settle (A:=[(some b7,.cells ((Tm.ce t3_0 t3_0_2)) 25 (0,0)),(some b2,.cells (#[.int .i64 t3_h]) 3 (0,0)),(some b1,.cells (#[.int .i64 0,.int .i64 0,(.slice none 0 0)]) 25 (0,0))]) (J:=J6) hE6 ?_
 intro I8 hE8 hxI8
 refine TT.seq (x:=sub [1,1,1,0] B30) (y:=sub [1,1,1,1] B30) ?_
 refine TT.seq (x:=sub [1,1,1,0,0] B30) (y:=sub [1,1,1,0,1] B30) ?_
 refine TT.rg [0,1,2,3,4,5,6,7,8,9,10,11,12,13,14] [kp,kp,kp,kp,kp,kq,kq,kp,kp,kp,kq,kq,kp,kp,kp] rfl rfl ?_
 refine DL.mv 12 (.int .i64 t3_1) rfl rfl rfl ?_
 refine DL.mv 13 (str a0) rfl rfl rfl ?_
 refine DL.pu 14 (.int .i64 (a0.length : Int)) rfl (p_strLen ty_u9 rfl rfl) ?_
 refine DL.pu 15 (.bool (t3_1 != (a0.length : Int))) rfl (p_neq rfl rfl rfl) ?_
 refine DL.mv 16 (.bool (t3_1 != (a0.length : Int))) rfl rfl rfl ?_
 obtain ⟨q10,h11,h12⟩:=bind_some h5
 refine DL.cut [(0,str a0),(2,ptr b1 0),(5,ptr b7 0),(20,.bool q10)] [9,10,11,12,13,14] ?_ (fun J13 => ?_)
 ·
  refine DL.mv 21 (.bool q10) rfl rfl rfl ?_
  obtain ⟨q21,h22,h23⟩:=bind_some h12
  refine DL.cut [(2,ptr b1 0),(5,ptr b7 0),(26,.bool q21)] [] ?_ (fun J24 => ?_)
  ·
   refine DL.nil ?_
   by_cases c31 : q21 = true
   ·
    have h32:=ite_true c31 h23
    refine TT.cond_true (x:=sub [1,1,1,0,1,0] B30) (y:=sub [1,1,1,0,1,1] B30) rfl c31 ?_
    refine TT.seq (x:=sub [1,1,1,0,1,0,0] B30) (y:=sub [1,1,1,0,1,0,1] B30) ?_
    refine TT.rg [0,1,2] [kp,(.store,none),kp] rfl rfl ?_
    refine DL.pu 27 (.agg #[.int .i64 0,.int .i64 0,(.slice none 0 0)]) rfl (p_build (vs:=[]) (fun w => by kernel_rfl) rfl rfl) ?_
    refine DL.put (H':=[(some b7,.cells ((Tm.ce t3_0 t3_0_2)) 25 (0,0)),(some b2,.cells (#[.int .i64 t3_h]) 3 (0,0)),(some b1,.cells (#[.int .i64 0,.int .i64 0,(.slice none 0 0)]) 25 (0,0))]) (i:=1) rfl (Wn.none rfl) rfl rfl (f_storeA (j:=2) ty_s25 rfl rfl rfl (one_cons trivial (one_cons trivial (one_cons (sl_one (RowS.sl (RowS.nil ShTm M6))) one_nil))) rfl rfl rfl) (keep_none rfl) ?_
    refine DL.pu 3 (.bool false) rfl (p_assign rfl rfl) ?_
    refine DL.nil ?_
    simp only [Option.some.injEq,Prod.mk.injEq] at h32
    obtain ⟨rfl,rfl⟩:=h32
    exact retF (rs:=[.cell 2 25,.tmp 3]) (vs:=[.agg #[.int .i64 0,.int .i64 0,(.slice none 0 0)],.bool false]) (.slice none 0 0) hE8 Tryd.func30 rfl rfl rfl (res_cons (ResV.cell (j:=2) ty_a25 ty_s25 rfl rfl rfl) (res_cons (ResV.tmp rfl) res_nil)) (RowS.nil ShTm M6)
   ·
    replace c31:=Bool.eq_false_iff.mpr c31
    have h33:=ite_false c31 h23
    refine TT.cond_false (x:=sub [1,1,1,0,1,0] B30) (y:=sub [1,1,1,0,1,1] B30) rfl c31 ?_
    refine TT.skip ?_
    refine TT.seq (x:=sub [1,1,1,1,0] B30) (y:=sub [1,1,1,1,1] B30) ?_
    refine TT.rg [0,1,2] [kq,(.store,none),kp] rfl rfl ?_
    refine DL.qu 28 (.agg (Tm.ce t3_0 t3_0_2)) rfl (f_loadA (j:=0) ty_a25 ty_s25 rfl rfl rfl rfl) ?_
    refine DL.put (H':=[(some b7,.cells ((Tm.ce t3_0 t3_0_2)) 25 (0,0)),(some b2,.cells (#[.int .i64 t3_h]) 3 (0,0)),(some b1,.cells ((Tm.ce t3_0 t3_0_2)) 25 (0,0))]) (i:=1) rfl (Wn.none rfl) rfl rfl (f_storeA (j:=2) ty_s25 rfl rfl rfl (one_cons trivial (one_cons trivial (one_cons (sl_one (RowS.sl hr_t3_0_2)) one_nil))) rfl rfl rfl) (keep_none rfl) ?_
    refine DL.pu 3 (.bool true) rfl (p_assign rfl rfl) ?_
    refine DL.nil ?_
    simp only [Option.some.injEq,Prod.mk.injEq] at h33
    obtain ⟨rfl,rfl⟩:=h33
    exact retF (rs:=[.cell 2 25,.tmp 3]) (vs:=[.agg (Tm.ce t3_0 t3_0_2),.bool true]) t3_0_2 hE8 Tryd.func30 rfl rfl rfl (res_cons (ResV.cell (j:=2) ty_a25 ty_s25 rfl rfl rfl) (res_cons (ResV.tmp rfl) res_nil)) hr_t3_0_2
  ·
   by_cases c25 : q10 = true
   ·
    have h26:=ite_true c25 h22
    refine DL.not (i:=10) rfl (Wn.yes c25 rfl rfl rfl rfl) rfl rfl ?_
    refine DL.not (i:=11) rfl (Wn.yes c25 rfl rfl rfl rfl) rfl rfl ?_
    refine DL.not (i:=12) rfl (Wn.yes c25 rfl rfl rfl rfl) rfl rfl ?_
    refine DL.not (i:=13) rfl (Wn.yes c25 rfl rfl rfl rfl) rfl rfl ?_
    refine DL.pu 26 (.bool true) rfl (p_pick_t c25 rfl rfl rfl) ?_
    obtain rfl:=Option.some.inj h26
    exact DL.weak J24 (Sub.cons rfl (Sub.cons rfl (Sub.cons rfl (Sub.nil _))))
   ·
    replace c25:=Bool.eq_false_iff.mpr c25
    have h27:=ite_false c25 h22
    refine DL.quiet (v:=.agg (Tm.ce t3_0 t3_0_2)) rfl (Wn.no c25 rfl rfl rfl rfl) rfl rfl rfl (f_loadA (j:=0) ty_a25 ty_s25 rfl rfl rfl rfl) ?_
    obtain ⟨t28,h29,h30⟩:=bind_some h27
    refine DL.quiet (v:=str t28) rfl (Wn.no c25 rfl rfl rfl rfl) rfl rfl rfl (f_callR rfl rfl (args_val (vs:=[.agg (Tm.ce t3_0 t3_0_2)]) rfl) (fun w => enter27 _ w) (fun w hc => ref29_Text.val h29 (M:=M6) w (hE8.ext hc) (Glob.mono hG hx6) hr_t3_0_2)) ?_
    refine DL.pure (v:=str a0) rfl (Wn.no c25 rfl rfl rfl rfl) rfl rfl rfl (p_move rfl rfl) ?_
    refine DL.pure (v:=.bool (!(t28 == a0))) rfl (Wn.no c25 rfl rfl rfl rfl) rfl rfl rfl (p_strNe rfl rfl rfl) ?_
    refine DL.pu 26 (.bool (!(t28 == a0))) rfl (p_pick_f c25 rfl rfl rfl) ?_
    obtain rfl:=Option.some.inj h30
    exact DL.weak J24 (Sub.cons rfl (Sub.cons rfl (Sub.cons rfl (Sub.nil _))))
 ·
  by_cases c14 : (t3_1 != (a0.length : Int)) = true
  ·
   have h15:=ite_true c14 h11
   refine DL.not (i:=5) rfl (Wn.yes c14 rfl rfl rfl rfl) rfl rfl ?_
   refine DL.not (i:=6) rfl (Wn.yes c14 rfl rfl rfl rfl) rfl rfl ?_
   refine DL.not (i:=7) rfl (Wn.yes c14 rfl rfl rfl rfl) rfl rfl ?_
   refine DL.pu 20 (.bool true) rfl (p_pick_t c14 rfl rfl rfl) ?_
   obtain rfl:=Option.some.inj h15
   exact DL.weak J13 (Sub.cons rfl (Sub.cons rfl (Sub.cons rfl (Sub.cons rfl (Sub.nil _)))))
  ·
   replace c14:=Bool.eq_false_iff.mpr c14
   have h16:=ite_false c14 h11
   refine DL.quiet (v:=.agg (Tm.ce t3_0 t3_0_2)) rfl (Wn.no c14 rfl rfl rfl rfl) rfl rfl rfl (f_loadA (j:=0) ty_a25 ty_s25 rfl rfl rfl rfl) ?_
   obtain ⟨t17,h18,h19⟩:=bind_some h16
   refine DL.quiet (v:=.bool t17) rfl (Wn.no c14 rfl rfl rfl rfl) rfl rfl rfl (f_callR rfl rfl (args_val (vs:=[.agg (Tm.ce t3_0 t3_0_2)]) rfl) (fun w => enter15 _ w) (fun w hc => ref29_May.val h18 (M:=M6) w (hE8.ext hc) hr_t3_0_2)) ?_
   refine DL.pure (v:=.bool (!t17)) rfl (Wn.no c14 rfl rfl rfl rfl) rfl rfl rfl (p_not rfl rfl) ?_
   refine DL.pu 20 (.bool (!t17)) rfl (p_pick_f c14 rfl rfl rfl) ?_
   obtain rfl:=Option.some.inj h19
   exact DL.weak J13 (Sub.cons rfl (Sub.cons rfl (Sub.cons rfl (Sub.cons rfl (Sub.nil _)))))

/-! ### escutcheon/escutcheonlaw29.term: function 34 -/
noncomputable def B34 : Code:=bodyOf Tryd.f34
def law29_term.f (a0 : List UInt8) : Option (Tm):=(ref29_Of.f a0).bind fun (t2_0,t2_1) => some t2_0
set_option maxRecDepth 20000 in
theorem law29_term.ok {a0 : List UInt8} {r : Tm} (h : law29_term.f a0 = some r) {M : Mem} (w : World) (hM : Ext M (heapOf w)) (hG : Glob M) : Calls Tryd.prog 34 #[str a0] w (PostF (G:=Value) (fun g => .agg (Tm.ce r g)) (fun g M_ => (RowS ShTm M_ g (Tree.kids r))) M w):=by
 unfold law29_term.f at h
 have hE:=Env.start hM
 refine calls_of_TT (N:=11) (S:=[(0,str a0)]) (c:=B34) Tryd.func34 rfl rfl rfl (by simp) ?_
 show TT _ _ _ _ _ _ [.code (sub [] B34)] _ _
 refine TT.seq (x:=sub [0] B34) (y:=sub [1] B34) ?_
 refine TT.rg [0] [(.alloc,none)] rfl rfl ?_
 refine DL.new (ob:=.cells (#[.int .i64 0,.int .i64 0,(.slice none 0 0)]) 25) (mk:=fun b => ptr b 0) (i:=0) rfl (Wn.none rfl) rfl rfl rfl (f_alloc ty_z25 rfl) ?_
 intro b1 hb1
 refine DL.nil ?_
 refine TT.seq (x:=sub [1,0] B34) (y:=sub [1,1] B34) ?_
 refine TT.rg [0,1,2,3,4,5,6,7] [kp,kk,kp,kp,kp,(.alloc,none),(.store,none),kp] rfl rfl ?_
 refine DL.mv 6 (str a0) rfl rfl rfl ?_
 obtain ⟨⟨t2_0,t2_1⟩,h3,h4⟩:=bind_some h
 refine DL.callF (G:=Value) (u:=fun g => .tuple #[.agg (Tm.ce t2_0 g),.bool t2_1]) (Q:=fun g M_ => (RowS ShTm M_ g (Tree.kids t2_0))) (A:=[(some b1,.cells (#[.int .i64 0,.int .i64 0,(.slice none 0 0)]) 25 (0,0))]) (J:=[]) (fun J5 => ((some b1,.cells (#[.int .i64 0,.int .i64 0,(.slice none 0 0)]) 25 (0,0)) :: J5)) (Nat.le_refl _) hE.nil (List.append_nil _).symm (fun _ => rfl) (by simp) (i:=1) rfl (Wn.none rfl) rfl rfl rfl rfl rfl rfl (args_val (vs:=[str a0]) rfl) (fun w => enter30 _ w) (fun w hc hI => ref29_Of.ok h3 (M:=M) w hI hG) ?_
 rintro t2_0_2 M5 J5 hE5 hx5 hr_t2_0_2
 show DL _ _ _ _ _ _ _ _ _ _ _ _ ((some b1,.cells (#[.int .i64 0,.int .i64 0,(.slice none 0 0)]) 25 (0,0)) :: J5)
 refine DL.mv 5 (.tuple #[.agg (Tm.ce t2_0 t2_0_2),.bool t2_1]) rfl rfl rfl ?_
 refine DL.pu 8 (.agg (Tm.ce t2_0 t2_0_2)) rfl (p_extract rfl rfl rfl) ?_
 refine DL.pu 9 (.bool t2_1) rfl (p_extract rfl rfl rfl) ?_
 refine DL.new (ob:=.cells (#[.int .i64 0,.int .i64 0,(.slice none 0 0)]) 25) (mk:=fun b => ptr b 0) (i:=5) rfl (Wn.none rfl) rfl rfl rfl (f_alloc ty_z25 rfl) ?_
 intro b6 hb6
 refine DL.put (H':=((some b6,.cells ((Tm.ce t2_0 t2_0_2)) 25 (0,0)) :: (some b1,.cells (#[.int .i64 0,.int .i64 0,(.slice none 0 0)]) 25 (0,0)) :: J5)) (i:=6) rfl (Wn.none rfl) rfl rfl (f_storeA (j:=0) ty_s25 rfl rfl rfl (one_cons trivial (one_cons trivial (one_cons (sl_one (RowS.sl hr_t2_0_2)) one_nil))) rfl rfl rfl) (keep_none rfl) ?_
 refine DL.pu 4 (.bool t2_1) rfl (p_assign rfl rfl) ?_
 refine DL.nil ?_
 refine TT.settle (A:=[(some b6,.cells ((Tm.ce t2_0 t2_0_2)) 25 (0,0)),(some b1,.cells (#[.int .i64 0,.int .i64 0,(.slice none 0 0)]) 25 (0,0))]) (J:=J5) hE5 ?_
 intro I7 hE7 hxI7
 refine TT.seq (x:=sub [1,1,0] B34) (y:=sub [1,1,1] B34) ?_
 refine TT.rg [0,1] [kq,(.store,none)] rfl rfl ?_
 refine DL.qu 10 (.agg (Tm.ce t2_0 t2_0_2)) rfl (f_loadA (j:=0) ty_a25 ty_s25 rfl rfl rfl rfl) ?_
 refine DL.put (H':=[(some b6,.cells ((Tm.ce t2_0 t2_0_2)) 25 (0,0)),(some b1,.cells ((Tm.ce t2_0 t2_0_2)) 25 (0,0))]) (i:=1) rfl (Wn.none rfl) rfl rfl (f_storeA (j:=1) ty_s25 rfl rfl rfl (one_cons trivial (one_cons trivial (one_cons (sl_one (RowS.sl hr_t2_0_2)) one_nil))) rfl rfl rfl) (keep_none rfl) ?_
 refine DL.nil ?_
 obtain rfl:=Option.some.inj h4
 exact retF (rs:=[.cell 2 25]) (vs:=[.agg (Tm.ce t2_0 t2_0_2)]) t2_0_2 hE7 Tryd.func34 rfl rfl rfl (res_cons (ResV.cell (j:=1) ty_a25 ty_s25 rfl rfl rfl) res_nil) hr_t2_0_2

@[reducible] def law29_walk.Rec (r_ : Tm → (List Tm) → Option ((List Tm))) : Prop:=∀ {a0 : Tm} {a1 : List Tm} {a0_2 : Value} {a1_v : Value} {a1_c : Array Value} {r : List Tm},r_ a0 a1 = some r → ∀ {M : Mem} (w : World) (hM : Ext M (heapOf w)) (hr_a0_2 : RowS ShTm M a0_2 (Tree.kids a0)) (ho_a1 : OwnS ShTm M a1_v a1_c a1) (hX : ∀ b,(Value.ownBlock a1_v) = some b → w.heap[b]? = some (.cells a1_c 25 (0,0))) (hXM : ∀ b,(Value.ownBlock a1_v) = some b → M b = none),Calls Tryd.prog 19 #[.agg (Tm.ce a0 a0_2),a1_v] w ((PostX (G:=Value × Array Value) (fun g => (g.1)) (fun g M_ => (OwnS ShTm M_ (g.1) (g.2) r)) (fun g => Value.ownBlock (g.1)) (fun g => .cells (g.2) 25 (0,0)) (Value.ownBlock a1_v) M w))

end Go.Proofs.YtfbogkhgfaibbaaDoor
