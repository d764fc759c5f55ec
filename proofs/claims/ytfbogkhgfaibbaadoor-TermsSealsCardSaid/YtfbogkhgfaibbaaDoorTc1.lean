import Derived.Test.YtfbogkhgfaibbaaDoorTb2
namespace Go.Proofs.YtfbogkhgfaibbaaDoor
open Go Go.HW Go.RowKit
set_option linter.unusedVariables false
set_option linter.unusedSimpArgs false


/-! ### escutcheon/escutcheonlaw29.TermsSeals: function 5 -/
noncomputable def B5 : Code:=bodyOf Tryd.f5
def law29_TermsSeals.L1 (a1 : Int) (a3 : Tm) (t270 : List Tm) : Nat → Int → Option ((Unit) ⊕ (Bool))
 | 0,_ => none
 | k + 1,x14_276 => if (decide (x14_276 < (t270.length : Int))) = true then (req (0 ≤ x14_276) (req (x14_276 < (t270.length : Int)) (nm (t270.getD x14_276.toNat Tm.dflt) fun t361 => (ref29_Order.f (Tm.fuel (Tm.mk 4 0 [Tm.mk 2 a1 ([] : List Tm),a3])) (Tm.mk 4 0 [Tm.mk 2 a1 ([] : List Tm),a3])).bind fun t364 => (ref29_Equal.f (Tm.fuel t361) t361 t364).bind fun t368 => if t368 = true then ((law29_known.f).bind fun t374 => some (.inr t374)) else (law29_TermsSeals.L1 a1 a3 t270 k (IntKind.i64.wrap (x14_276 + 1)))))) else (some (.inl ()))
set_option maxRecDepth 20000 in
theorem law29_TermsSeals.L1_ok (a0_v : Value) (a1 : Int) (a2 : Int) (a3 : Tm) (a3_2 : Value) (b1 : Nat) (b60 : Nat) (b61 : Nat) (s63_v : Value) (b64 : Nat) (x12_75 : Int) (t270 : List Tm) (t270_v : Value) {r : Bool}  {w0 : World} {M0 Mb : Mem} {K : List Item} (hG : Glob Mb) (hr_74 : RowS ShTm Mb s63_v [Tm.mk 2 a1 ([] : List Tm),a3]) (hr_275 : RowS ShTm Mb t270_v t270) :
  ∀ (k : Nat) (M I : Mem) (hE : Env w0 M0 M I) (hx : Ext Mb M) (x14_276 : Int) (q : (Unit) ⊕ (Bool)) (h : law29_TermsSeals.L1 a1 a3 t270 k x14_276 = some q) (hk : match (generalizing:=false) q with | .inl () => (∀ (M' I' : Mem),Env w0 M0 M' I' → Ext Mb M' → TT Tryd.prog 5 (Post (fun u => u = .bool r) w0) 104 w0 I' K [(0,a0_v),(7,ptr b1 0),(9,ptr b60 0),(10,ptr b61 0),(11,ptr b64 0),(12,.int .i64 x12_75)] [(some b64,.cells (#[.int .i64 4,.int .i64 0,s63_v]) 25 (0,0)),(some b61,.cells (#[.int .i64 2,.int .i64 a2,(.slice none 0 0)]) 25 (0,0)),(some b60,.cells (#[.int .i64 2,.int .i64 a1,(.slice none 0 0)]) 25 (0,0)),(some b1,.cells ((Tm.ce a3 a3_2)) 25 (0,0))]) | .inr rq => rq = r),
   TT Tryd.prog 5 (Post (fun u => u = .bool r) w0) 104 w0 I (.code (sub [1,1,1,1,1,0,1,0,0,1,0,0,1,1,0,0] B5) :: .inLoop (sub [1,1,1,1,1,0,1,0,0,1,0,0,1,1,0,0] B5) :: .inBlock 2 :: K) [(0,a0_v),(7,ptr b1 0),(9,ptr b60 0),(10,ptr b61 0),(11,ptr b64 0),(12,.int .i64 x12_75),(13,t270_v),(14,.int .i64 x14_276)] [(some b64,.cells (#[.int .i64 4,.int .i64 0,s63_v]) 25 (0,0)),(some b61,.cells (#[.int .i64 2,.int .i64 a2,(.slice none 0 0)]) 25 (0,0)),(some b60,.cells (#[.int .i64 2,.int .i64 a1,(.slice none 0 0)]) 25 (0,0)),(some b1,.cells ((Tm.ce a3 a3_2)) 25 (0,0))]:=by
 intro k
 induction k with
 | zero => intro M I hE hx x14_276 q h; simp [law29_TermsSeals.L1] at h
 | succ k ih =>
  intro M I hE hx x14_276 q h hk
  unfold law29_TermsSeals.L1 at h
  refine TT.seq (x:=sub [1,1,1,1,1,0,1,0,0,1,0,0,1,1,0,0,0] B5) (y:=sub [1,1,1,1,1,0,1,0,0,1,0,0,1,1,0,0,1] B5) ?_
  refine TT.seq (x:=sub [1,1,1,1,1,0,1,0,0,1,0,0,1,1,0,0,0,0] B5) (y:=sub [1,1,1,1,1,0,1,0,0,1,0,0,1,1,0,0,0,1] B5) ?_
  refine TT.rg [0,1,2,3] [kp,kp,kp,kp] rfl rfl ?_
  refine DL.mv 66 (.int .i64 x14_276) rfl rfl rfl ?_
  refine DL.mv 67 (t270_v) rfl rfl rfl ?_
  refine DL.pu 68 (.int .i64 (t270.length : Int)) rfl (p_slLen ty_u22 (RowS.sl (RowS.mono hr_275 hx)) rfl rfl) ?_
  refine DL.pu 69 (.bool (decide (x14_276 < (t270.length : Int)))) rfl (p_lss rfl rfl rfl) ?_
  refine DL.nil ?_
  by_cases c353 : (decide (x14_276 < (t270.length : Int))) = true
  ·
   have h354:=ite_true c353 h
   refine TT.cond_true (x:=sub [1,1,1,1,1,0,1,0,0,1,0,0,1,1,0,0,0,1,0] B5) (y:=sub [1,1,1,1,1,0,1,0,0,1,0,0,1,1,0,0,0,1,1] B5) rfl c353 ?_
   refine TT.skip ?_
   refine TT.seq (x:=sub [1,1,1,1,1,0,1,0,0,1,0,0,1,1,0,0,1,0] B5) (y:=sub [1,1,1,1,1,0,1,0,0,1,0,0,1,1,0,0,1,1] B5) ?_
   refine TT.block (c:=sub [1,1,1,1,1,0,1,0,0,1,0,0,1,1,0,0,1,0,0] B5) ?_
   refine TT.seq (x:=sub [1,1,1,1,1,0,1,0,0,1,0,0,1,1,0,0,1,0,0,0] B5) (y:=sub [1,1,1,1,1,0,1,0,0,1,0,0,1,1,0,0,1,0,0,1] B5) ?_
   refine TT.rgD [0,1,2,3,4,5,6] [0,0,3,7,0,16,63] [kp,kp,kp,kp,(.look,some 0),kk,kq] rfl mixed (by kernel_rfl) ?_
   intro w355 hl355 hj355 hz355
   refine DL.mv 72 (t270_v) rfl rfl rfl ?_
   refine DL.mv 73 (.int .i64 x14_276) rfl rfl rfl ?_
   obtain ⟨g356,h357⟩:=req_some h354
   obtain ⟨g358,h359⟩:=req_some h357
   refine DL.pu 74 (elp t270_v (x14_276.toNat * 3)) rfl (p_slIx ty_u22 ty_s25 (RowS.some (RowS.mono hr_275 hx) g356 g358) g356 g358 rfl rfl rfl) ?_
   obtain ⟨t361,e362,h363⟩:=nm_some h359
   obtain ⟨cs360,hc360,hl360⟩:=id ((RowS.mono hr_275 hx))
   have q360:=hl360 _ _ (getD_some Tm.dflt (lt_len g356 g358)); rw [← e362] at q360
   obtain ⟨t361_2,hq360,hr_t361_2⟩:=Tm.op q360
   refine DL.imm (v:=.agg (Tm.ce t361 t361_2)) rfl (Wn.none rfl) rfl rfl rfl (i_loadElA (RowV.mono hc360 hE.mi) hq360 (lt_len g356 g358) ty_a25 ty_s25 rfl rfl) ?_
   refine DL.look (v:=.agg #[.int .i64 4,.int .i64 0,s63_v]) (x:=0) (b:=b64) (i:=4) rfl (Wn.none rfl) rfl rfl rfl rfl rfl (List.mem_of_getElem? (i:=0) rfl) (b_loadA ty_a25 ty_s25 rfl rfl rfl) ?_
   obtain ⟨t364,h365,h366⟩:=bind_some h363
   refine DL.callF (G:=Value) (u:=fun g => .agg (Tm.ce t364 g)) (Q:=fun g M_ => (RowS ShTm M_ g (Tree.kids t364))) (A:=[(some b64,.cells (#[.int .i64 4,.int .i64 0,s63_v]) 25 (0,0)),(some b61,.cells (#[.int .i64 2,.int .i64 a2,(.slice none 0 0)]) 25 (0,0)),(some b60,.cells (#[.int .i64 2,.int .i64 a1,(.slice none 0 0)]) 25 (0,0)),(some b1,.cells ((Tm.ce a3 a3_2)) 25 (0,0))]) (J:=[]) (fun J367 => ((some b64,.cells (#[.int .i64 4,.int .i64 0,s63_v]) 25 (0,0)) :: (some b61,.cells (#[.int .i64 2,.int .i64 a2,(.slice none 0 0)]) 25 (0,0)) :: (some b60,.cells (#[.int .i64 2,.int .i64 a1,(.slice none 0 0)]) 25 (0,0)) :: (some b1,.cells ((Tm.ce a3 a3_2)) 25 (0,0)) :: J367)) hl355.2.2.2 hE.nil (List.append_nil _).symm (fun _ => rfl) (by simp [kind_mk,num_mk]) (i:=5) rfl (Wn.none rfl) rfl rfl rfl rfl rfl rfl (args_val (vs:=[.agg #[.int .i64 4,.int .i64 0,s63_v]]) rfl) (fun w => enter17 _ w) (fun w hc hI => ref29_Order.ok h365 (M:=M) w hI (Glob.mono hG hx) (RowS.mono hr_74 hx)) ?_
   rintro t364_2 M367 J367 hE367 hx367 hr_t364_2
   show DL _ _ _ _ _ _ _ _ _ _ _ _ ((some b64,.cells (#[.int .i64 4,.int .i64 0,s63_v]) 25 (0,0)) :: (some b61,.cells (#[.int .i64 2,.int .i64 a2,(.slice none 0 0)]) 25 (0,0)) :: (some b60,.cells (#[.int .i64 2,.int .i64 a1,(.slice none 0 0)]) 25 (0,0)) :: (some b1,.cells ((Tm.ce a3 a3_2)) 25 (0,0)) :: J367)
   obtain ⟨t368,h369,h370⟩:=bind_some h366
   refine DL.qu 78 (.bool t368) rfl (f_callR rfl rfl (args_val (vs:=[.agg (Tm.ce t361 t361_2),.agg (Tm.ce t364 t364_2)]) rfl) (fun w => enter20 _ w) (fun w hc => ref29_Equal.val h369 (M:=M367) w (hE367.extJ (A:=[(some b64,.cells (#[.int .i64 4,.int .i64 0,s63_v]) 25 (0,0)),(some b61,.cells (#[.int .i64 2,.int .i64 a2,(.slice none 0 0)]) 25 (0,0)),(some b60,.cells (#[.int .i64 2,.int .i64 a1,(.slice none 0 0)]) 25 (0,0)),(some b1,.cells ((Tm.ce a3 a3_2)) 25 (0,0))]) hc rfl) (RowS.mono hr_t361_2 hx367) hr_t364_2)) ?_
   refine DL.nil' hl355 ?_
   refine TT.settle (A:=[(some b64,.cells (#[.int .i64 4,.int .i64 0,s63_v]) 25 (0,0)),(some b61,.cells (#[.int .i64 2,.int .i64 a2,(.slice none 0 0)]) 25 (0,0)),(some b60,.cells (#[.int .i64 2,.int .i64 a1,(.slice none 0 0)]) 25 (0,0)),(some b1,.cells ((Tm.ce a3 a3_2)) 25 (0,0))]) (J:=J367) hE367 ?_
   intro I371 hE371 hxI371
   by_cases c372 : t368 = true
   ·
    have h373:=ite_true c372 h370
    refine TT.cond_true (x:=sub [1,1,1,1,1,0,1,0,0,1,0,0,1,1,0,0,1,0,0,1,0] B5) (y:=sub [1,1,1,1,1,0,1,0,0,1,0,0,1,1,0,0,1,0,0,1,1] B5) rfl c372 ?_
    refine TT.seq (x:=sub [1,1,1,1,1,0,1,0,0,1,0,0,1,1,0,0,1,0,0,1,0,0] B5) (y:=sub [1,1,1,1,1,0,1,0,0,1,0,0,1,1,0,0,1,0,0,1,0,1] B5) ?_
    refine TT.rg [0,1] [kq,kp] rfl rfl ?_
    obtain ⟨t374,h375,h376⟩:=bind_some h373
    refine DL.qu 79 (.bool t374) rfl (f_callR rfl rfl (args_val (vs:=[]) rfl) (fun w => enter11 _ w) (fun w hc => law29_known.val h375 (M:=M367) w (hE371.ext hc) (Glob.mono hG (hx.trans hx367)))) ?_
    refine DL.pu 8 (.bool t374) rfl (p_assign rfl rfl) ?_
    refine DL.nil ?_
    obtain rfl:=Option.some.inj h376
    have k377 : t374 = r:=hk
    subst k377
    exact retnE (rs:=[.tmp 8]) (vs:=[.bool t374]) hE371.base Tryd.func5 rfl rfl rfl (res_cons (ResV.tmp rfl) res_nil) rfl
   ·
    replace c372:=Bool.eq_false_iff.mpr c372
    have h378:=ite_false c372 h370
    refine TT.cond_false (x:=sub [1,1,1,1,1,0,1,0,0,1,0,0,1,1,0,0,1,0,0,1,0] B5) (y:=sub [1,1,1,1,1,0,1,0,0,1,0,0,1,1,0,0,1,0,0,1,1] B5) rfl c372 ?_
    refine TT.skip ?_
    refine TT.inBlock ?_
    refine TT.rg [0,1,2] [kp,kp,kp] rfl rfl ?_
    refine DL.mv 70 (.int .i64 x14_276) rfl rfl rfl ?_
    refine DL.pu 71 (.int .i64 (IntKind.i64.wrap (x14_276 + 1))) rfl (p_add rfl rfl rfl) ?_
    refine DL.pu 14 (.int .i64 (IntKind.i64.wrap (x14_276 + 1))) rfl (p_assign rfl rfl) ?_
    refine DL.nil ?_
    refine TT.inLoop ?_
    exact TT.weak (ih M367 I371 hE371 (hx.trans hx367) (IntKind.i64.wrap (x14_276 + 1)) _ h378 hk) (Sub.cons rfl (Sub.cons rfl (Sub.cons rfl (Sub.cons rfl (Sub.cons rfl (Sub.cons rfl (Sub.cons rfl (Sub.cons rfl (Sub.nil _)))))))))
  ·
   replace c353:=Bool.eq_false_iff.mpr c353
   have h379:=ite_false c353 h
   refine TT.cond_false (x:=sub [1,1,1,1,1,0,1,0,0,1,0,0,1,1,0,0,0,1,0] B5) (y:=sub [1,1,1,1,1,0,1,0,0,1,0,0,1,1,0,0,0,1,1] B5) rfl c353 ?_
   refine TT.exit rfl ?_
   obtain rfl:=Option.some.inj h379
   exact TT.weak (hk M I hE hx) (Sub.cons rfl (Sub.cons rfl (Sub.cons rfl (Sub.cons rfl (Sub.cons rfl (Sub.cons rfl (Sub.nil _)))))))

def law29_TermsSeals.L0 (a0 : List Tm) (a1 : Int) (a3 : Tm) : Nat → Int → Option ((Unit) ⊕ (Bool))
 | 0,_ => none
 | k + 1,x12_75 => if (decide (x12_75 < (a0.length : Int))) = true then (req (0 ≤ x12_75) (req (x12_75 < (a0.length : Int)) (nm (a0.getD x12_75.toNat Tm.dflt) fun t263 => (ref29_Order.f (Tm.fuel t263) t263).bind fun t266 => (law29_walk.f (Tm.fuel t266) t266 ([] : List Tm)).bind fun t270 => onw (law29_TermsSeals.L1 a1 a3 t270 ((t270.length : Int).toNat + 1) 0) (fun _ => law29_TermsSeals.L0 a0 a1 a3 k (IntKind.i64.wrap (x12_75 + 1))) (fun r => some (.inr r))))) else (some (.inl ()))
set_option maxRecDepth 20000 in
theorem law29_TermsSeals.L0_ok (a0 : List Tm) (a0_v : Value) (a1 : Int) (a2 : Int) (a3 : Tm) (a3_2 : Value) (b1 : Nat) (b60 : Nat) (b61 : Nat) (s63_v : Value) (b64 : Nat) {r : Bool}  {w0 : World} {M0 Mb : Mem} {K : List Item} (hG : Glob Mb) (hr_a0 : RowS ShTm Mb a0_v a0) (hr_74 : RowS ShTm Mb s63_v [Tm.mk 2 a1 ([] : List Tm),a3]) :
  ∀ (k : Nat) (M I : Mem) (hE : Env w0 M0 M I) (hx : Ext Mb M) (x12_75 : Int) (q : (Unit) ⊕ (Bool)) (h : law29_TermsSeals.L0 a0 a1 a3 k x12_75 = some q) (hk : match (generalizing:=false) q with | .inl () => (∀ (M' I' : Mem),Env w0 M0 M' I' → Ext Mb M' → TT Tryd.prog 5 (Post (fun u => u = .bool r) w0) 104 w0 I' K [(0,a0_v),(7,ptr b1 0),(9,ptr b60 0),(10,ptr b61 0),(11,ptr b64 0)] [(some b64,.cells (#[.int .i64 4,.int .i64 0,s63_v]) 25 (0,0)),(some b61,.cells (#[.int .i64 2,.int .i64 a2,(.slice none 0 0)]) 25 (0,0)),(some b60,.cells (#[.int .i64 2,.int .i64 a1,(.slice none 0 0)]) 25 (0,0)),(some b1,.cells ((Tm.ce a3 a3_2)) 25 (0,0))]) | .inr rq => rq = r),
   TT Tryd.prog 5 (Post (fun u => u = .bool r) w0) 104 w0 I (.code (sub [1,1,1,1,1,0,1,0,0] B5) :: .inLoop (sub [1,1,1,1,1,0,1,0,0] B5) :: .inBlock 0 :: K) [(0,a0_v),(7,ptr b1 0),(9,ptr b60 0),(10,ptr b61 0),(11,ptr b64 0),(12,.int .i64 x12_75)] [(some b64,.cells (#[.int .i64 4,.int .i64 0,s63_v]) 25 (0,0)),(some b61,.cells (#[.int .i64 2,.int .i64 a2,(.slice none 0 0)]) 25 (0,0)),(some b60,.cells (#[.int .i64 2,.int .i64 a1,(.slice none 0 0)]) 25 (0,0)),(some b1,.cells ((Tm.ce a3 a3_2)) 25 (0,0))]:=by
 intro k
 induction k with
 | zero => intro M I hE hx x12_75 q h; simp [law29_TermsSeals.L0] at h
 | succ k ih =>
  intro M I hE hx x12_75 q h hk
  unfold law29_TermsSeals.L0 at h
  refine TT.seq (x:=sub [1,1,1,1,1,0,1,0,0,0] B5) (y:=sub [1,1,1,1,1,0,1,0,0,1] B5) ?_
  refine TT.seq (x:=sub [1,1,1,1,1,0,1,0,0,0,0] B5) (y:=sub [1,1,1,1,1,0,1,0,0,0,1] B5) ?_
  refine TT.rg [0,1,2,3] [kp,kp,kp,kp] rfl rfl ?_
  refine DL.mv 54 (.int .i64 x12_75) rfl rfl rfl ?_
  refine DL.mv 55 (a0_v) rfl rfl rfl ?_
  refine DL.pu 56 (.int .i64 (a0.length : Int)) rfl (p_slLen ty_u22 (RowS.sl (RowS.mono hr_a0 hx)) rfl rfl) ?_
  refine DL.pu 57 (.bool (decide (x12_75 < (a0.length : Int)))) rfl (p_lss rfl rfl rfl) ?_
  refine DL.nil ?_
  by_cases c255 : (decide (x12_75 < (a0.length : Int))) = true
  ·
   have h256:=ite_true c255 h
   refine TT.cond_true (x:=sub [1,1,1,1,1,0,1,0,0,0,1,0] B5) (y:=sub [1,1,1,1,1,0,1,0,0,0,1,1] B5) rfl c255 ?_
   refine TT.skip ?_
   refine TT.seq (x:=sub [1,1,1,1,1,0,1,0,0,1,0] B5) (y:=sub [1,1,1,1,1,0,1,0,0,1,1] B5) ?_
   refine TT.block (c:=sub [1,1,1,1,1,0,1,0,0,1,0,0] B5) ?_
   refine TT.seq (x:=sub [1,1,1,1,1,0,1,0,0,1,0,0,0] B5) (y:=sub [1,1,1,1,1,0,1,0,0,1,0,0,1] B5) ?_
   refine TT.nilOwn (e:=25) ?_
   refine TT.rg [0,1,2,3,4,5,6] [kp,kp,kp,kp,kk,kx,kp] rfl rfl ?_
   refine DL.mv 60 (a0_v) rfl rfl rfl ?_
   refine DL.mv 61 (.int .i64 x12_75) rfl rfl rfl ?_
   obtain ⟨g258,h259⟩:=req_some h256
   obtain ⟨g260,h261⟩:=req_some h259
   refine DL.pu 62 (elp a0_v (x12_75.toNat * 3)) rfl (p_slIx ty_u22 ty_s25 (RowS.some (RowS.mono hr_a0 hx) g258 g260) g258 g260 rfl rfl rfl) ?_
   obtain ⟨t263,e264,h265⟩:=nm_some h261
   obtain ⟨cs262,hc262,hl262⟩:=id ((RowS.mono hr_a0 hx))
   have q262:=hl262 _ _ (getD_some Tm.dflt (lt_len g258 g260)); rw [← e264] at q262
   obtain ⟨t263_2,hq262,hr_t263_2⟩:=Tm.op q262
   refine DL.imm (v:=.agg (Tm.ce t263 t263_2)) rfl (Wn.none rfl) rfl rfl rfl (i_loadElA (RowV.mono hc262 hE.mi) hq262 (lt_len g258 g260) ty_a25 ty_s25 rfl rfl) ?_
   obtain ⟨t266,h267,h268⟩:=bind_some h265
   refine DL.callF (G:=Value) (u:=fun g => .agg (Tm.ce t266 g)) (Q:=fun g M_ => (RowS ShTm M_ g (Tree.kids t266))) (A:=[(Value.ownBlock (.slice none 0 0),.cells (#[]) 25 (0,0)),(some b64,.cells (#[.int .i64 4,.int .i64 0,s63_v]) 25 (0,0)),(some b61,.cells (#[.int .i64 2,.int .i64 a2,(.slice none 0 0)]) 25 (0,0)),(some b60,.cells (#[.int .i64 2,.int .i64 a1,(.slice none 0 0)]) 25 (0,0)),(some b1,.cells ((Tm.ce a3 a3_2)) 25 (0,0))]) (J:=[]) (fun J269 => ((Value.ownBlock (.slice none 0 0),.cells (#[]) 25 (0,0)) :: (some b64,.cells (#[.int .i64 4,.int .i64 0,s63_v]) 25 (0,0)) :: (some b61,.cells (#[.int .i64 2,.int .i64 a2,(.slice none 0 0)]) 25 (0,0)) :: (some b60,.cells (#[.int .i64 2,.int .i64 a1,(.slice none 0 0)]) 25 (0,0)) :: (some b1,.cells ((Tm.ce a3 a3_2)) 25 (0,0)) :: J269)) (Nat.le_refl _) hE.nil (List.append_nil _).symm (fun _ => rfl) (by simp [kind_mk,num_mk]) (i:=4) rfl (Wn.none rfl) rfl rfl rfl rfl rfl rfl (args_val (vs:=[.agg (Tm.ce t263 t263_2)]) rfl) (fun w => enter17 _ w) (fun w hc hI => ref29_Order.ok h267 (M:=M) w hI (Glob.mono hG hx) hr_t263_2) ?_
   rintro t266_2 M269 J269 hE269 hx269 hr_t266_2
   show DL _ _ _ _ _ _ _ _ _ _ _ _ ((Value.ownBlock (.slice none 0 0),.cells (#[]) 25 (0,0)) :: (some b64,.cells (#[.int .i64 4,.int .i64 0,s63_v]) 25 (0,0)) :: (some b61,.cells (#[.int .i64 2,.int .i64 a2,(.slice none 0 0)]) 25 (0,0)) :: (some b60,.cells (#[.int .i64 2,.int .i64 a1,(.slice none 0 0)]) 25 (0,0)) :: (some b1,.cells ((Tm.ce a3 a3_2)) 25 (0,0)) :: J269)
   obtain ⟨t270,h271,h272⟩:=bind_some h268
   refine DL.callX (G:=Value × Array Value) (u:=fun g => (g.1)) (Q:=fun g M_ => (OwnS ShTm M_ (g.1) (g.2) t270)) (r':=fun g => Value.ownBlock (g.1)) (o':=fun g => .cells (g.2) 25 (0,0)) (A:=[(Value.ownBlock (.slice none 0 0),.cells (#[]) 25 (0,0)),(some b64,.cells (#[.int .i64 4,.int .i64 0,s63_v]) 25 (0,0)),(some b61,.cells (#[.int .i64 2,.int .i64 a2,(.slice none 0 0)]) 25 (0,0)),(some b60,.cells (#[.int .i64 2,.int .i64 a1,(.slice none 0 0)]) 25 (0,0)),(some b1,.cells ((Tm.ce a3 a3_2)) 25 (0,0))]) (J:=J269) (j:=0) (fun r_273 o_273 J273 => ((r_273,o_273) :: (some b64,.cells (#[.int .i64 4,.int .i64 0,s63_v]) 25 (0,0)) :: (some b61,.cells (#[.int .i64 2,.int .i64 a2,(.slice none 0 0)]) 25 (0,0)) :: (some b60,.cells (#[.int .i64 2,.int .i64 a1,(.slice none 0 0)]) 25 (0,0)) :: (some b1,.cells ((Tm.ce a3 a3_2)) 25 (0,0)) :: J273)) (Nat.le_refl _) hE269 rfl rfl (fun _ _ _ => rfl) (by simp) (i:=5) rfl (Wn.none rfl) rfl rfl rfl rfl rfl rfl (args_val (vs:=[.agg (Tm.ce t266 t266_2),.slice none 0 0]) rfl) (fun w => enter19 _ w) (fun w hc hI hx_ hm_ => law29_walk.ok h271 (M:=M269) w hI hr_t266_2 (OwnS.nil ShTm M269) hx_ hm_) ?_
   rintro ⟨t270_v,t270_c⟩ M273 J273 hE273 hx273 ho_t270
   show DL _ _ _ _ _ _ _ _ _ _ _ _ ((Value.ownBlock t270_v,.cells t270_c 25 (0,0)) :: (some b64,.cells (#[.int .i64 4,.int .i64 0,s63_v]) 25 (0,0)) :: (some b61,.cells (#[.int .i64 2,.int .i64 a2,(.slice none 0 0)]) 25 (0,0)) :: (some b60,.cells (#[.int .i64 2,.int .i64 a1,(.slice none 0 0)]) 25 (0,0)) :: (some b1,.cells ((Tm.ce a3 a3_2)) 25 (0,0)) :: J273)
   refine DL.pu 13 (t270_v) rfl (p_assign rfl rfl) ?_
   refine DL.nil ?_
   refine TT.settle (A:=[(Value.ownBlock t270_v,.cells t270_c 25 (0,0)),(some b64,.cells (#[.int .i64 4,.int .i64 0,s63_v]) 25 (0,0)),(some b61,.cells (#[.int .i64 2,.int .i64 a2,(.slice none 0 0)]) 25 (0,0)),(some b60,.cells (#[.int .i64 2,.int .i64 a1,(.slice none 0 0)]) 25 (0,0)),(some b1,.cells ((Tm.ce a3 a3_2)) 25 (0,0))]) (J:=J273) hE273 ?_
   intro I274 hE274 hxI274
   refine TT.seq (x:=sub [1,1,1,1,1,0,1,0,0,1,0,0,1,0] B5) (y:=sub [1,1,1,1,1,0,1,0,0,1,0,0,1,1] B5) ?_
   refine TT.rg [0] [kp] rfl rfl ?_
   refine DL.pu 14 (.int .i64 0) rfl (p_assign rfl rfl) ?_
   refine DL.nil ?_
   refine TT.block (c:=sub [1,1,1,1,1,0,1,0,0,1,0,0,1,1,0] B5) ?_
   refine TT.freezeAt (j:=0) hE274 rfl ?_
   intro M275 I275 hE275 hx275 hxI275 hb275
   have hr_275 : RowS ShTm M275 t270_v t270:=OwnS.stays ho_t270 hx275 hb275
   show TT _ _ _ _ _ _ _ _ [(some b64,.cells (#[.int .i64 4,.int .i64 0,s63_v]) 25 (0,0)),(some b61,.cells (#[.int .i64 2,.int .i64 a2,(.slice none 0 0)]) 25 (0,0)),(some b60,.cells (#[.int .i64 2,.int .i64 a1,(.slice none 0 0)]) 25 (0,0)),(some b1,.cells ((Tm.ce a3 a3_2)) 25 (0,0))]
   refine TT.loop (c:=sub [1,1,1,1,1,0,1,0,0,1,0,0,1,1,0,0] B5) ?_
   rcases onw_some h272 with ⟨_,h380,h381⟩ | ⟨r383,h380,h381⟩
   ·
    refine TT.weak (law29_TermsSeals.L1_ok a0_v a1 a2 a3 a3_2 b1 b60 b61 s63_v b64 x12_75 t270 t270_v (Glob.mono hG (((hx.trans hx269).trans hx273).trans hx275)) (RowS.mono hr_74 (((hx.trans hx269).trans hx273).trans hx275)) hr_275 ((t270.length : Int).toNat + 1) M275 I275 hE275 (Ext.refl _) 0 (.inl ()) h380 (fun M382 I382 hE382 hx382 => ?_)) (Sub.cons rfl (Sub.cons rfl (Sub.cons rfl (Sub.cons rfl (Sub.cons rfl (Sub.cons rfl (Sub.cons rfl (Sub.cons rfl (Sub.nil _)))))))))
    show TT _ _ _ _ _ _ _ _ _
    refine TT.inBlock ?_
    refine TT.rg [0,1,2] [kp,kp,kp] rfl rfl ?_
    refine DL.mv 58 (.int .i64 x12_75) rfl rfl rfl ?_
    refine DL.pu 59 (.int .i64 (IntKind.i64.wrap (x12_75 + 1))) rfl (p_add rfl rfl rfl) ?_
    refine DL.pu 12 (.int .i64 (IntKind.i64.wrap (x12_75 + 1))) rfl (p_assign rfl rfl) ?_
    refine DL.nil ?_
    refine TT.inLoop ?_
    exact TT.weak (ih M382 I382 hE382 ((((hx.trans hx269).trans hx273).trans hx275).trans hx382) (IntKind.i64.wrap (x12_75 + 1)) _ h381 hk) (Sub.cons rfl (Sub.cons rfl (Sub.cons rfl (Sub.cons rfl (Sub.cons rfl (Sub.cons rfl (Sub.nil _)))))))
   ·
    obtain rfl:=Option.some.inj h381
    exact TT.weak (law29_TermsSeals.L1_ok a0_v a1 a2 a3 a3_2 b1 b60 b61 s63_v b64 x12_75 t270 t270_v (Glob.mono hG (((hx.trans hx269).trans hx273).trans hx275)) (RowS.mono hr_74 (((hx.trans hx269).trans hx273).trans hx275)) hr_275 ((t270.length : Int).toNat + 1) M275 I275 hE275 (Ext.refl _) 0 (.inr r383) h380 hk) (Sub.cons rfl (Sub.cons rfl (Sub.cons rfl (Sub.cons rfl (Sub.cons rfl (Sub.cons rfl (Sub.cons rfl (Sub.cons rfl (Sub.nil _)))))))))
  ·
   replace c255:=Bool.eq_false_iff.mpr c255
   have h384:=ite_false c255 h
   refine TT.cond_false (x:=sub [1,1,1,1,1,0,1,0,0,0,1,0] B5) (y:=sub [1,1,1,1,1,0,1,0,0,0,1,1] B5) rfl c255 ?_
   refine TT.exit rfl ?_
   obtain rfl:=Option.some.inj h384
   exact TT.weak (hk M I hE hx) (Sub.cons rfl (Sub.cons rfl (Sub.cons rfl (Sub.cons rfl (Sub.cons rfl (Sub.nil _))))))

def law29_TermsSeals.f (a0 : List Tm) (a1 : Int) (a2 : Int) (a3 : Tm) : Option (Bool):=(ref29_Much.f a0).bind fun t2 => (if t2 = true then (some true) else ((law29_all.f a0).bind fun t13 => some (!t13))).bind fun q6 => (if q6 = true then (some true) else (some (decide (a1 < 0)))).bind fun q17 => (if q17 = true then (some true) else (some (decide (a2 < 0)))).bind fun q25 => (if q25 = true then (some true) else ((ref29_Size.f (Tm.fuel a3) a3 301).bind fun t40 => some (decide (300 < t40)))).bind fun q33 => (if q33 = true then (some true) else ((ref29_May.f a3).bind fun t51 => some (!t51))).bind fun q44 => if q44 = true then ((law29_known.f).bind fun t56 => some t56) else ((ref29_May.f (Tm.mk 4 0 [Tm.mk 2 a1 ([] : List Tm),a3])).bind fun t65 => if (!t65) = true then ((law29_known.f).bind fun t70 => some t70) else (onw (law29_TermsSeals.L0 a0 a1 a3 ((a0.length : Int).toNat + 1) 0) (fun _ => req (a0.length ≤ 1099511627776) (req ((a0).length + [Tm.mk 4 0 [Tm.mk 2 a1 ([] : List Tm),a3]].length ≤ 1099511627776) ((terms_Can.f (Tm.mk 2 a1 ([] : List Tm)) a0).bind fun t399 => if t399 = true then ((terms_Can.f a3 ((a0) ++ [Tm.mk 4 0 [Tm.mk 2 a1 ([] : List Tm),a3]])).bind fun t404 => (if t404 = true then ((law29_known.f).bind fun t414 => some t414) else (some false)).bind fun q408 => some q408) else ((terms_Can.f (Tm.mk 2 a2 ([] : List Tm)) ((a0) ++ [Tm.mk 4 0 [Tm.mk 2 a1 ([] : List Tm),a3]])).bind fun t420 => (terms_Can.f (Tm.mk 2 a2 ([] : List Tm)) a0).bind fun t423 => (if (t420 == t423) = true then ((law29_known.f).bind fun t433 => some t433) else (some false)).bind fun q427 => some q427)))) (fun r => some r)))
set_option maxRecDepth 20000 in
theorem law29_TermsSeals.ok {a0 : List Tm} {a1 : Int} {a2 : Int} {a3 : Tm} {a0_v : Value} {a3_2 : Value} {r : Bool} (h : law29_TermsSeals.f a0 a1 a2 a3 = some r) {M : Mem} (w : World) (hM : Ext M (heapOf w)) (hG : Glob M) (hr_a0 : RowS ShTm M a0_v a0) (hr_a3_2 : RowS ShTm M a3_2 (Tree.kids a3)) : Calls Tryd.prog 5 #[a0_v,.int .i64 a1,.int .i64 a2,.agg (Tm.ce a3 a3_2)] w (Post (fun u => u = .bool r) w):=by
 unfold law29_TermsSeals.f at h
 have hE:=Env.start hM
 refine calls_of_TT (N:=104) (S:=[(0,a0_v),(1,.int .i64 a1),(2,.int .i64 a2),(3,.agg (Tm.ce a3 a3_2))]) (c:=B5) Tryd.func5 rfl rfl rfl (by simp) ?_
 show TT _ _ _ _ _ _ [.code (sub [] B5)] _ _
 refine TT.seq (x:=sub [0] B5) (y:=sub [1] B5) ?_
 refine TT.rg [0,1] [(.alloc,none),kp] rfl rfl ?_
 refine DL.new (ob:=.cells ((Tm.ce a3 a3_2)) 25) (mk:=fun b => ptr b 0) (i:=0) rfl (Wn.none rfl) rfl rfl rfl (f_box (v:=.agg (Tm.ce a3 a3_2)) rfl rfl) ?_
 intro b1 hb1
 refine DL.pu 8 (.bool false) rfl (p_assign rfl rfl) ?_
 refine DL.nil ?_
 refine TT.seq (x:=sub [1,0] B5) (y:=sub [1,1] B5) ?_
 refine TT.seq (x:=sub [1,0,0] B5) (y:=sub [1,0,1] B5) ?_
 refine TT.rg [0,1,2,3,4,5,6,7,8,9,10,11,12,13,14,15,16,17,18,19,20,21,22,23,24] [kp,kq,kp,kp,kq,kp,kp,kp,kp,kp,kp,kp,kp,kp,kp,kp,kq,kq,kp,kp,kp,kq,kq,kp,kp] rfl rfl ?_
 refine DL.mv 16 (a0_v) rfl rfl rfl ?_
 obtain ⟨t2,h3,h4⟩:=bind_some h
 refine DL.qu 17 (.bool t2) rfl (f_callR rfl rfl (args_val (vs:=[a0_v]) rfl) (fun w => enter12 _ w) (fun w hc => ref29_Much.val h3 (M:=M) w (hE.ext hc) hr_a0)) ?_
 refine DL.mv 18 (.bool t2) rfl rfl rfl ?_
 obtain ⟨q6,h7,h8⟩:=bind_some h4
 refine DL.cut [(0,a0_v),(1,.int .i64 a1),(2,.int .i64 a2),(7,ptr b1 0),(22,.bool q6)] [7,8,9,10,11,12,13,14,15,16,17,18,19,20,21,22,23,24] ?_ (fun J9 => ?_)
 ·
  refine DL.mv 23 (.bool q6) rfl rfl rfl ?_
  obtain ⟨q17,h18,h19⟩:=bind_some h8
  refine DL.cut [(0,a0_v),(1,.int .i64 a1),(2,.int .i64 a2),(7,ptr b1 0),(26,.bool q17)] [11,12,13,14,15,16,17,18,19,20,21,22,23,24] ?_ (fun J20 => ?_)
  ·
   refine DL.mv 27 (.bool q17) rfl rfl rfl ?_
   obtain ⟨q25,h26,h27⟩:=bind_some h19
   refine DL.cut [(0,a0_v),(1,.int .i64 a1),(2,.int .i64 a2),(7,ptr b1 0),(30,.bool q25)] [15,16,17,18,19,20,21,22,23,24] ?_ (fun J28 => ?_)
   ·
    refine DL.mv 31 (.bool q25) rfl rfl rfl ?_
    obtain ⟨q33,h34,h35⟩:=bind_some h27
    refine DL.cut [(0,a0_v),(1,.int .i64 a1),(2,.int .i64 a2),(7,ptr b1 0),(35,.bool q33)] [20,21,22,23,24] ?_ (fun J36 => ?_)
    ·
     refine DL.mv 36 (.bool q33) rfl rfl rfl ?_
     obtain ⟨q44,h45,h46⟩:=bind_some h35
     refine DL.cut [(0,a0_v),(1,.int .i64 a1),(2,.int .i64 a2),(7,ptr b1 0),(40,.bool q44)] [] ?_ (fun J47 => ?_)
     ·
      refine DL.nil ?_
      by_cases c54 : q44 = true
      ·
       have h55:=ite_true c54 h46
       refine TT.cond_true (x:=sub [1,0,1,0] B5) (y:=sub [1,0,1,1] B5) rfl c54 ?_
       refine TT.seq (x:=sub [1,0,1,0,0] B5) (y:=sub [1,0,1,0,1] B5) ?_
       refine TT.rg [0,1] [kq,kp] rfl rfl ?_
       obtain ⟨t56,h57,h58⟩:=bind_some h55
       refine DL.qu 41 (.bool t56) rfl (f_callR rfl rfl (args_val (vs:=[]) rfl) (fun w => enter11 _ w) (fun w hc => law29_known.val h57 (M:=M) w (hE.ext hc) hG)) ?_
       refine DL.pu 8 (.bool t56) rfl (p_assign rfl rfl) ?_
       refine DL.nil ?_
       obtain rfl:=Option.some.inj h58
       exact retnE (rs:=[.tmp 8]) (vs:=[.bool t56]) hE.base Tryd.func5 rfl rfl rfl (res_cons (ResV.tmp rfl) res_nil) rfl
      ·
       replace c54:=Bool.eq_false_iff.mpr c54
       have h59:=ite_false c54 h46
       refine TT.cond_false (x:=sub [1,0,1,0] B5) (y:=sub [1,0,1,1] B5) rfl c54 ?_
       refine TT.skip ?_
       refine TT.seq (x:=sub [1,1,0] B5) (y:=sub [1,1,1] B5) ?_
       refine TT.rg [0,1,2,3,4,5,6,7] [kp,kp,kp,kp,(.alloc,none),(.alloc,none),(.store,none),(.store,none)] rfl rfl ?_
       refine DL.mv 42 (.int .i64 a1) rfl rfl rfl ?_
       refine DL.pu 43 (.agg #[.int .i64 2,.int .i64 a1,(.slice none 0 0)]) rfl (p_build (vs:=[(0,.int .i64 2),(1,.int .i64 a1)]) (fun w => by kernel_rfl) rfl rfl) ?_
       refine DL.mv 44 (.int .i64 a2) rfl rfl rfl ?_
       refine DL.pu 45 (.agg #[.int .i64 2,.int .i64 a2,(.slice none 0 0)]) rfl (p_build (vs:=[(0,.int .i64 2),(1,.int .i64 a2)]) (fun w => by kernel_rfl) rfl rfl) ?_
       refine DL.new (ob:=.cells (#[.int .i64 0,.int .i64 0,(.slice none 0 0)]) 25) (mk:=fun b => ptr b 0) (i:=4) rfl (Wn.none rfl) rfl rfl rfl (f_alloc ty_z25 rfl) ?_
       intro b60 hb60
       refine DL.new (ob:=.cells (#[.int .i64 0,.int .i64 0,(.slice none 0 0)]) 25) (mk:=fun b => ptr b 0) (i:=5) rfl (Wn.none rfl) rfl rfl rfl (f_alloc ty_z25 rfl) ?_
       intro b61 hb61
       refine DL.put (H':=[(some b61,.cells (#[.int .i64 0,.int .i64 0,(.slice none 0 0)]) 25 (0,0)),(some b60,.cells (#[.int .i64 2,.int .i64 a1,(.slice none 0 0)]) 25 (0,0)),(some b1,.cells ((Tm.ce a3 a3_2)) 25 (0,0))]) (i:=6) rfl (Wn.none rfl) rfl rfl (f_storeA (j:=1) ty_s25 rfl rfl rfl (one_cons trivial (one_cons trivial (one_cons (sl_one (RowS.sl (RowS.nil ShTm M))) one_nil))) rfl rfl rfl) (keep_none rfl) ?_
       refine DL.put (H':=[(some b61,.cells (#[.int .i64 2,.int .i64 a2,(.slice none 0 0)]) 25 (0,0)),(some b60,.cells (#[.int .i64 2,.int .i64 a1,(.slice none 0 0)]) 25 (0,0)),(some b1,.cells ((Tm.ce a3 a3_2)) 25 (0,0))]) (i:=7) rfl (Wn.none rfl) rfl rfl (f_storeA (j:=0) ty_s25 rfl rfl rfl (one_cons trivial (one_cons trivial (one_cons (sl_one (RowS.sl (RowS.nil ShTm M))) one_nil))) rfl rfl rfl) (keep_none rfl) ?_
       refine DL.nil ?_
       refine TT.seq (x:=sub [1,1,1,0] B5) (y:=sub [1,1,1,1] B5) ?_
       refine TT.rg [0,1,2,3,4,5] [kq,kq,(.alloc,none),kp,(.alloc,none),(.store,none)] rfl rfl ?_
       refine DL.qu 46 (.agg #[.int .i64 2,.int .i64 a1,(.slice none 0 0)]) rfl (f_loadA (j:=1) ty_a25 ty_s25 rfl rfl rfl rfl) ?_
       refine DL.qu 47 (.agg (Tm.ce a3 a3_2)) rfl (f_loadA (j:=2) ty_a25 ty_s25 rfl rfl rfl rfl) ?_
       refine DL.newS (M:=M) (s:=ShTm) (zs:=[Tm.mk 2 a1 ([] : List Tm),a3]) (cells:=[.int .i64 2,.int .i64 a1,(.slice none 0 0),.int .i64 (Tm.kind a3),.int .i64 (Tm.num a3),a3_2]) (n:=2) rfl (by decide) rfl (fun i x hx => by match i,hx with | 0,hx => cases hx; exact (Tm.cl (t:=Tm.mk 2 a1 ([] : List Tm)) (RowS.nil ShTm M)) | 1,hx => cases hx; exact (Tm.cl (t:=a3) hr_a3_2) | k + 2,hx => simp at hx) (i:=2) rfl (Wn.none rfl) rfl rfl rfl (f_buildS (n:=2) (vs:=[(0,.agg #[.int .i64 2,.int .i64 a1,(.slice none 0 0)]),(1,.agg (Tm.ce a3 a3_2))]) elem22 rfl rfl (by kernel_rfl) rfl (args_val2 rfl)) ?_
       intro s63_v s63_c ho_s63
       refine DL.pu 49 (.agg #[.int .i64 4,.int .i64 0,s63_v]) rfl (p_build (vs:=[(0,.int .i64 4),(2,s63_v)]) (fun w => by obtain ⟨_,_,e_⟩:=OwnS.sl ho_s63; subst e_; kernel_rfl) rfl rfl) ?_
       refine DL.new (ob:=.cells (#[.int .i64 0,.int .i64 0,(.slice none 0 0)]) 25) (mk:=fun b => ptr b 0) (i:=4) rfl (Wn.none rfl) rfl rfl rfl (f_alloc ty_z25 rfl) ?_
       intro b64 hb64
       refine DL.put (H':=[(some b64,.cells (#[.int .i64 4,.int .i64 0,s63_v]) 25 (0,0)),(Value.ownBlock s63_v,.cells s63_c 25 (0,0)),(some b61,.cells (#[.int .i64 2,.int .i64 a2,(.slice none 0 0)]) 25 (0,0)),(some b60,.cells (#[.int .i64 2,.int .i64 a1,(.slice none 0 0)]) 25 (0,0)),(some b1,.cells ((Tm.ce a3 a3_2)) 25 (0,0))]) (i:=5) rfl (Wn.none rfl) rfl rfl (f_storeA (j:=0) ty_s25 rfl rfl rfl (one_cons trivial (one_cons trivial (one_cons (sl_one (OwnS.sl ho_s63)) one_nil))) rfl rfl rfl) (keep_none rfl) ?_
       refine DL.nil ?_
       refine TT.seq (x:=sub [1,1,1,1,0] B5) (y:=sub [1,1,1,1,1] B5) ?_
       refine TT.seq (x:=sub [1,1,1,1,0,0] B5) (y:=sub [1,1,1,1,0,1] B5) ?_
       refine TT.rg [0,1,2] [kq,kq,kp] rfl rfl ?_
       refine DL.qu 50 (.agg #[.int .i64 4,.int .i64 0,s63_v]) rfl (f_loadA (j:=0) ty_a25 ty_s25 rfl rfl rfl rfl) ?_
       obtain ⟨t65,h66,h67⟩:=bind_some h59
       refine DL.qu 51 (.bool t65) rfl (f_callR rfl rfl (args_val (vs:=[.agg #[.int .i64 4,.int .i64 0,s63_v]]) rfl) (fun w => enter15 _ w) (fun w hc => ref29_May.val h66 (M:=heapOf w) w (Ext.refl _) (OwnS.row ho_s63 (hE.ext hc) hc (i:=1) rfl))) ?_
       refine DL.pu 52 (.bool (!t65)) rfl (p_not rfl rfl) ?_
       refine DL.nil ?_
       by_cases c68 : (!t65) = true
       ·
        have h69:=ite_true c68 h67
        refine TT.cond_true (x:=sub [1,1,1,1,0,1,0] B5) (y:=sub [1,1,1,1,0,1,1] B5) rfl c68 ?_
        refine TT.seq (x:=sub [1,1,1,1,0,1,0,0] B5) (y:=sub [1,1,1,1,0,1,0,1] B5) ?_
        refine TT.rg [0,1] [kq,kp] rfl rfl ?_
        obtain ⟨t70,h71,h72⟩:=bind_some h69
        refine DL.qu 53 (.bool t70) rfl (f_callR rfl rfl (args_val (vs:=[]) rfl) (fun w => enter11 _ w) (fun w hc => law29_known.val h71 (M:=M) w (hE.ext hc) hG)) ?_
        refine DL.pu 8 (.bool t70) rfl (p_assign rfl rfl) ?_
        refine DL.nil ?_
        obtain rfl:=Option.some.inj h72
        exact retnE (rs:=[.tmp 8]) (vs:=[.bool t70]) hE.base Tryd.func5 rfl rfl rfl (res_cons (ResV.tmp rfl) res_nil) rfl
       ·
        replace c68:=Bool.eq_false_iff.mpr c68
        have h73:=ite_false c68 h67
        refine TT.cond_false (x:=sub [1,1,1,1,0,1,0] B5) (y:=sub [1,1,1,1,0,1,1] B5) rfl c68 ?_
        refine TT.skip ?_
        refine TT.seq (x:=sub [1,1,1,1,1,0] B5) (y:=sub [1,1,1,1,1,1] B5) ?_
        refine TT.seq (x:=sub [1,1,1,1,1,0,0] B5) (y:=sub [1,1,1,1,1,0,1] B5) ?_
        refine TT.rg [0] [kp] rfl rfl ?_
        refine DL.pu 12 (.int .i64 0) rfl (p_assign rfl rfl) ?_
        refine DL.nil ?_
        refine TT.block (c:=sub [1,1,1,1,1,0,1,0] B5) ?_
        refine TT.freezeAt (j:=1) hE rfl ?_
        intro M74 I74 hE74 hx74 hxI74 hb74
        have hr_74 : RowS ShTm M74 s63_v [Tm.mk 2 a1 ([] : List Tm),a3]:=OwnS.stays ho_s63 hx74 hb74
        show TT _ _ _ _ _ _ _ _ [(some b64,.cells (#[.int .i64 4,.int .i64 0,s63_v]) 25 (0,0)),(some b61,.cells (#[.int .i64 2,.int .i64 a2,(.slice none 0 0)]) 25 (0,0)),(some b60,.cells (#[.int .i64 2,.int .i64 a1,(.slice none 0 0)]) 25 (0,0)),(some b1,.cells ((Tm.ce a3 a3_2)) 25 (0,0))]
        refine TT.loop (c:=sub [1,1,1,1,1,0,1,0,0] B5) ?_
        rcases onw_some h73 with ⟨_,h385,h386⟩ | ⟨r388,h385,h386⟩
        ·
         refine TT.weak (law29_TermsSeals.L0_ok a0 a0_v a1 a2 a3 a3_2 b1 b60 b61 s63_v b64 (Glob.mono hG hx74) (RowS.mono hr_a0 hx74) hr_74 ((a0.length : Int).toNat + 1) M74 I74 hE74 (Ext.refl _) 0 (.inl ()) h385 (fun M387 I387 hE387 hx387 => ?_)) (Sub.cons rfl (Sub.cons rfl (Sub.cons rfl (Sub.cons rfl (Sub.cons rfl (Sub.cons rfl (Sub.nil _)))))))
         show TT _ _ _ _ _ _ _ _ _
         refine TT.seq (x:=sub [1,1,1,1,1,1,0] B5) (y:=sub [1,1,1,1,1,1,1] B5) ?_
         refine TT.rgD [0,2,1,3,4,5] [0,1,0,4,15,31] [kp,(.free,none),(.look,some 0),(.alloc,none),kx,kp] rfl mixed (by kernel_rfl) ?_
         intro w389 hl389 hj389 hz389
         refine DL.mv 80 (a0_v) rfl rfl rfl ?_
         refine DL.look (v:=.agg #[.int .i64 4,.int .i64 0,s63_v]) (x:=0) (b:=b64) (i:=2) rfl (Wn.none rfl) rfl rfl rfl rfl rfl (List.mem_of_getElem? (i:=0) rfl) (b_loadA ty_a25 ty_s25 rfl rfl rfl) ?_
         obtain ⟨g391,h392⟩:=req_some h386
         refine DL.appendS0f (M:=M387) (s:=ShTm) (fun s393_v s393_c => [(Value.ownBlock s393_v,.cells s393_c 25 (0,0)),(some b64,.cells (#[.int .i64 4,.int .i64 0,s63_v]) 25 (0,0)),(some b61,.cells (#[.int .i64 2,.int .i64 a2,(.slice none 0 0)]) 25 (0,0)),(some b60,.cells (#[.int .i64 2,.int .i64 a1,(.slice none 0 0)]) 25 (0,0)),(some b1,.cells ((Tm.ce a3 a3_2)) 25 (0,0))]) elem22  g391 (by decide) (RowS.srcC (RowS.mono hr_a0 (hx74.trans hx387)) (fun w hc => ((fun w hc => hE387.imm hc)) w hc.tail)) (i:=1) rfl (Wn.none rfl) rfl rfl rfl rfl rfl rfl (fun _ _ => rfl) ?_
         intro s393_v s393_c ho_s393
         show DL _ _ _ _ _ _ _ _ _ _ _ _ [(Value.ownBlock s393_v,.cells s393_c 25 (0,0)),(some b64,.cells (#[.int .i64 4,.int .i64 0,s63_v]) 25 (0,0)),(some b61,.cells (#[.int .i64 2,.int .i64 a2,(.slice none 0 0)]) 25 (0,0)),(some b60,.cells (#[.int .i64 2,.int .i64 a1,(.slice none 0 0)]) 25 (0,0)),(some b1,.cells ((Tm.ce a3 a3_2)) 25 (0,0))]
         refine DL.newS (M:=M387) (s:=ShTm) (zs:=[Tm.mk 4 0 [Tm.mk 2 a1 ([] : List Tm),a3]]) (cells:=[.int .i64 4,.int .i64 0,s63_v]) (n:=1) rfl (by decide) rfl (fun i x hx => by match i,hx with | 0,hx => cases hx; exact (Tm.cl (t:=Tm.mk 4 0 [Tm.mk 2 a1 ([] : List Tm),a3]) (RowS.mono hr_74 hx387)) | k + 1,hx => simp at hx) (i:=3) rfl (Wn.none rfl) rfl rfl rfl (f_buildS (n:=1) (vs:=[(0,.agg #[.int .i64 4,.int .i64 0,s63_v])]) elem22 rfl rfl (by kernel_rfl) rfl (args_val2 rfl)) ?_
         intro s395_v s395_c ho_s395
         obtain ⟨g396,h397⟩:=req_some h392
         refine DL.appendS (M:=M387) (s:=ShTm) (fun s398_v s398_c => [(Value.ownBlock s395_v,.cells s395_c 25 (0,0)),(Value.ownBlock s398_v,.cells s398_c 25 (0,0)),(some b64,.cells (#[.int .i64 4,.int .i64 0,s63_v]) 25 (0,0)),(some b61,.cells (#[.int .i64 2,.int .i64 a2,(.slice none 0 0)]) 25 (0,0)),(some b60,.cells (#[.int .i64 2,.int .i64 a1,(.slice none 0 0)]) 25 (0,0)),(some b1,.cells ((Tm.ce a3 a3_2)) 25 (0,0))]) elem22 (j:=1) rfl ho_s393 g396 (by decide) (OwnS.src (i:=0) ho_s395 rfl) (i:=4) rfl (Wn.none rfl) rfl rfl rfl rfl rfl rfl (fun _ _ => rfl) ?_
         intro s398_v s398_c ho_s398
         show DL _ _ _ _ _ _ _ _ _ _ _ _ [(Value.ownBlock s395_v,.cells s395_c 25 (0,0)),(Value.ownBlock s398_v,.cells s398_c 25 (0,0)),(some b64,.cells (#[.int .i64 4,.int .i64 0,s63_v]) 25 (0,0)),(some b61,.cells (#[.int .i64 2,.int .i64 a2,(.slice none 0 0)]) 25 (0,0)),(some b60,.cells (#[.int .i64 2,.int .i64 a1,(.slice none 0 0)]) 25 (0,0)),(some b1,.cells ((Tm.ce a3 a3_2)) 25 (0,0))]
         refine DL.pu 15 (s398_v) rfl (p_assign rfl rfl) ?_
         refine DL.nil' hl389 ?_
         refine TT.seq (x:=sub [1,1,1,1,1,1,1,0] B5) (y:=sub [1,1,1,1,1,1,1,1] B5) ?_
         refine TT.seq (x:=sub [1,1,1,1,1,1,1,0,0] B5) (y:=sub [1,1,1,1,1,1,1,0,1] B5) ?_
         refine TT.rg [0,1,2] [kq,kp,kq] rfl rfl ?_
         refine DL.qu 85 (.agg #[.int .i64 2,.int .i64 a1,(.slice none 0 0)]) rfl (f_loadA (j:=4) ty_a25 ty_s25 rfl rfl rfl rfl) ?_
         refine DL.mv 86 (a0_v) rfl rfl rfl ?_
         obtain ⟨t399,h400,h401⟩:=bind_some h397
         refine DL.qu 87 (.bool t399) rfl (f_callR rfl rfl (args_val (vs:=[.agg #[.int .i64 2,.int .i64 a1,(.slice none 0 0)],a0_v]) rfl) (fun w => enter16 _ w) (fun w hc => terms_Can.val h400 (M:=M387) w (hE387.ext hc) (Glob.mono hG (hx74.trans hx387)) (RowS.nil ShTm M387) (RowS.mono hr_a0 (hx74.trans hx387)))) ?_
         refine DL.nil ?_
         by_cases c402 : t399 = true
         ·
          have h403:=ite_true c402 h401
          refine TT.cond_true (x:=sub [1,1,1,1,1,1,1,0,1,0] B5) (y:=sub [1,1,1,1,1,1,1,0,1,1] B5) rfl c402 ?_
          refine TT.seq (x:=sub [1,1,1,1,1,1,1,0,1,0,0] B5) (y:=sub [1,1,1,1,1,1,1,0,1,0,1] B5) ?_
          refine TT.rg [0,1,2,3,4,5,6] [kq,kp,kq,kp,kq,kp,kp] rfl rfl ?_
          refine DL.qu 88 (.agg (Tm.ce a3 a3_2)) rfl (f_loadA (j:=5) ty_a25 ty_s25 rfl rfl rfl rfl) ?_
          refine DL.mv 89 (s398_v) rfl rfl rfl ?_
          obtain ⟨t404,h405,h406⟩:=bind_some h403
          refine DL.qu 90 (.bool t404) rfl (f_callR rfl rfl (args_val (vs:=[.agg (Tm.ce a3 a3_2),s398_v]) rfl) (fun w => enter16 _ w) (fun w hc => terms_Can.val h405 (M:=heapOf w) w (Ext.refl _) (Glob.mono (Glob.mono hG (hx74.trans hx387)) (hE387.ext hc)) (RowS.mono (RowS.mono hr_a3_2 (hx74.trans hx387)) (hE387.ext hc)) (OwnS.row ho_s398 (hE387.ext hc) hc (i:=1) rfl))) ?_
          refine DL.mv 91 (.bool t404) rfl rfl rfl ?_
          obtain ⟨q408,h409,h410⟩:=bind_some h406
          refine DL.cut [(93,.bool q408)] [6] ?_ (fun J411 => ?_)
          ·
           refine DL.pu 8 (.bool q408) rfl (p_assign rfl rfl) ?_
           refine DL.nil ?_
           obtain rfl:=Option.some.inj h410
           exact retnE (rs:=[.tmp 8]) (vs:=[.bool q408]) hE387.base Tryd.func5 rfl rfl rfl (res_cons (ResV.tmp rfl) res_nil) rfl
          ·
           by_cases c412 : t404 = true
           ·
            have h413:=ite_true c412 h409
            obtain ⟨t414,h415,h416⟩:=bind_some h413
            refine DL.quiet (v:=.bool t414) rfl (Wn.yes c412 rfl rfl rfl rfl) rfl rfl rfl (f_callR rfl rfl (args_val (vs:=[]) rfl) (fun w => enter11 _ w) (fun w hc => law29_known.val h415 (M:=M387) w (hE387.ext hc) (Glob.mono hG (hx74.trans hx387)))) ?_
            refine DL.pu 93 (.bool t414) rfl (p_pick_t c412 rfl rfl rfl) ?_
            obtain rfl:=Option.some.inj h416
            exact DL.weak J411 (Sub.cons rfl (Sub.nil _))
           ·
            replace c412:=Bool.eq_false_iff.mpr c412
            have h417:=ite_false c412 h409
            refine DL.not (i:=4) rfl (Wn.no c412 rfl rfl rfl rfl) rfl rfl ?_
            refine DL.pu 93 (.bool false) rfl (p_pick_f c412 rfl rfl rfl) ?_
            obtain rfl:=Option.some.inj h417
            exact DL.weak J411 (Sub.cons rfl (Sub.nil _))
         ·
          replace c402:=Bool.eq_false_iff.mpr c402
          have h418:=ite_false c402 h401
          refine TT.cond_false (x:=sub [1,1,1,1,1,1,1,0,1,0] B5) (y:=sub [1,1,1,1,1,1,1,0,1,1] B5) rfl c402 ?_
          refine TT.skip ?_
          refine TT.seq (x:=sub [1,1,1,1,1,1,1,1,0] B5) (y:=sub [1,1,1,1,1,1,1,1,1] B5) ?_
          refine TT.rgD [0,1,2,3,4,5,6,7,8,9,10] [0,0,3,0,0,31,63,127,255,511,1023] [(.look,some 3),kp,kq,(.look,some 3),kp,kq,kp,kp,kq,kp,kp] rfl mixed (by kernel_rfl) ?_
          intro w419 hl419 hj419 hz419
          refine DL.look (v:=.agg #[.int .i64 2,.int .i64 a2,(.slice none 0 0)]) (x:=3) (b:=b61) (i:=0) rfl (Wn.none rfl) rfl rfl rfl rfl rfl (List.mem_of_getElem? (i:=3) rfl) (b_loadA ty_a25 ty_s25 rfl rfl rfl) ?_
          refine DL.mv 95 (s398_v) rfl rfl rfl ?_
          obtain ⟨t420,h421,h422⟩:=bind_some h418
          refine DL.qu 96 (.bool t420) rfl (f_callR rfl rfl (args_val (vs:=[.agg #[.int .i64 2,.int .i64 a2,(.slice none 0 0)],s398_v]) rfl) (fun w => enter16 _ w) (fun w hc => terms_Can.val h421 (M:=heapOf w) w (Ext.refl _) (Glob.mono (Glob.mono hG (hx74.trans hx387)) (hE387.ext hc)) (RowS.mono (RowS.nil ShTm M387) (hE387.ext hc)) (OwnS.row ho_s398 (hE387.ext hc) hc (i:=1) rfl))) ?_
          refine DL.look (v:=.agg #[.int .i64 2,.int .i64 a2,(.slice none 0 0)]) (x:=3) (b:=b61) (i:=3) rfl (Wn.none rfl) rfl rfl rfl rfl rfl (List.mem_of_getElem? (i:=3) rfl) (b_loadA ty_a25 ty_s25 rfl rfl rfl) ?_
          refine DL.mv 98 (a0_v) rfl rfl rfl ?_
          obtain ⟨t423,h424,h425⟩:=bind_some h422
          refine DL.qu 99 (.bool t423) rfl (f_callR rfl rfl (args_val (vs:=[.agg #[.int .i64 2,.int .i64 a2,(.slice none 0 0)],a0_v]) rfl) (fun w => enter16 _ w) (fun w hc => terms_Can.val h424 (M:=M387) w (hE387.ext hc) (Glob.mono hG (hx74.trans hx387)) (RowS.nil ShTm M387) (RowS.mono hr_a0 (hx74.trans hx387)))) ?_
          refine DL.pu 100 (.bool (t420 == t423)) rfl (p_eqb ty_u4 rfl rfl rfl) ?_
          refine DL.mv 101 (.bool (t420 == t423)) rfl rfl rfl ?_
          obtain ⟨q427,h428,h429⟩:=bind_some h425
          refine DL.cut [(103,.bool q427)] [10] ?_ (fun J430 => ?_)
          ·
           refine DL.pu 8 (.bool q427) rfl (p_assign rfl rfl) ?_
           refine DL.nil' hl419 ?_
           obtain rfl:=Option.some.inj h429
           exact retnE (rs:=[.tmp 8]) (vs:=[.bool q427]) hE387.base Tryd.func5 rfl rfl rfl (res_cons (ResV.tmp rfl) res_nil) rfl
          ·
           by_cases c431 : (t420 == t423) = true
           ·
            have h432:=ite_true c431 h428
            obtain ⟨t433,h434,h435⟩:=bind_some h432
            refine DL.quiet (v:=.bool t433) rfl (Wn.yes c431 rfl rfl rfl rfl) rfl rfl rfl (f_callR rfl rfl (args_val (vs:=[]) rfl) (fun w => enter11 _ w) (fun w hc => law29_known.val h434 (M:=M387) w (hE387.ext hc) (Glob.mono hG (hx74.trans hx387)))) ?_
            refine DL.pu 103 (.bool t433) rfl (p_pick_t c431 rfl rfl rfl) ?_
            obtain rfl:=Option.some.inj h435
            exact DL.weak J430 (Sub.cons rfl (Sub.nil _))
           ·
            replace c431:=Bool.eq_false_iff.mpr c431
            have h436:=ite_false c431 h428
            refine DL.not (i:=8) rfl (Wn.no c431 rfl rfl rfl rfl) rfl rfl ?_
            refine DL.pu 103 (.bool false) rfl (p_pick_f c431 rfl rfl rfl) ?_
            obtain rfl:=Option.some.inj h436
            exact DL.weak J430 (Sub.cons rfl (Sub.nil _))
        ·
         obtain rfl:=Option.some.inj h386
         exact TT.weak (law29_TermsSeals.L0_ok a0 a0_v a1 a2 a3 a3_2 b1 b60 b61 s63_v b64 (Glob.mono hG hx74) (RowS.mono hr_a0 hx74) hr_74 ((a0.length : Int).toNat + 1) M74 I74 hE74 (Ext.refl _) 0 (.inr r388) h385 rfl) (Sub.cons rfl (Sub.cons rfl (Sub.cons rfl (Sub.cons rfl (Sub.cons rfl (Sub.cons rfl (Sub.nil _)))))))
     ·
      by_cases c48 : q33 = true
      ·
       have h49:=ite_true c48 h45
       refine DL.not (i:=21) rfl (Wn.yes c48 rfl rfl rfl rfl) rfl rfl ?_
       refine DL.not (i:=22) rfl (Wn.yes c48 rfl rfl rfl rfl) rfl rfl ?_
       refine DL.not (i:=23) rfl (Wn.yes c48 rfl rfl rfl rfl) rfl rfl ?_
       refine DL.pu 40 (.bool true) rfl (p_pick_t c48 rfl rfl rfl) ?_
       obtain rfl:=Option.some.inj h49
       exact DL.weak J47 (Sub.cons rfl (Sub.cons rfl (Sub.cons rfl (Sub.cons rfl (Sub.cons rfl (Sub.nil _))))))
      ·
       replace c48:=Bool.eq_false_iff.mpr c48
       have h50:=ite_false c48 h45
       refine DL.quiet (v:=.agg (Tm.ce a3 a3_2)) rfl (Wn.no c48 rfl rfl rfl rfl) rfl rfl rfl (f_loadA (j:=0) ty_a25 ty_s25 rfl rfl rfl rfl) ?_
       obtain ⟨t51,h52,h53⟩:=bind_some h50
       refine DL.quiet (v:=.bool t51) rfl (Wn.no c48 rfl rfl rfl rfl) rfl rfl rfl (f_callR rfl rfl (args_val (vs:=[.agg (Tm.ce a3 a3_2)]) rfl) (fun w => enter15 _ w) (fun w hc => ref29_May.val h52 (M:=M) w (hE.ext hc) hr_a3_2)) ?_
       refine DL.pure (v:=.bool (!t51)) rfl (Wn.no c48 rfl rfl rfl rfl) rfl rfl rfl (p_not rfl rfl) ?_
       refine DL.pu 40 (.bool (!t51)) rfl (p_pick_f c48 rfl rfl rfl) ?_
       obtain rfl:=Option.some.inj h53
       exact DL.weak J47 (Sub.cons rfl (Sub.cons rfl (Sub.cons rfl (Sub.cons rfl (Sub.cons rfl (Sub.nil _))))))
    ·
     by_cases c37 : q25 = true
     ·
      have h38:=ite_true c37 h34
      refine DL.not (i:=16) rfl (Wn.yes c37 rfl rfl rfl rfl) rfl rfl ?_
      refine DL.not (i:=17) rfl (Wn.yes c37 rfl rfl rfl rfl) rfl rfl ?_
      refine DL.not (i:=18) rfl (Wn.yes c37 rfl rfl rfl rfl) rfl rfl ?_
      refine DL.pu 35 (.bool true) rfl (p_pick_t c37 rfl rfl rfl) ?_
      obtain rfl:=Option.some.inj h38
      exact DL.weak J36 (Sub.cons rfl (Sub.cons rfl (Sub.cons rfl (Sub.cons rfl (Sub.cons rfl (Sub.nil _))))))
     ·
      replace c37:=Bool.eq_false_iff.mpr c37
      have h39:=ite_false c37 h34
      refine DL.quiet (v:=.agg (Tm.ce a3 a3_2)) rfl (Wn.no c37 rfl rfl rfl rfl) rfl rfl rfl (f_loadA (j:=0) ty_a25 ty_s25 rfl rfl rfl rfl) ?_
      obtain ⟨t40,h41,h42⟩:=bind_some h39
      refine DL.quiet (v:=.int .i64 t40) rfl (Wn.no c37 rfl rfl rfl rfl) rfl rfl rfl (f_callR rfl rfl (args_val (vs:=[.agg (Tm.ce a3 a3_2),.int .i64 301]) rfl) (fun w => enter13 _ w) (fun w hc => ref29_Size.val h41 (M:=M) w (hE.ext hc) hr_a3_2)) ?_
      refine DL.pure (v:=.bool (decide (300 < t40))) rfl (Wn.no c37 rfl rfl rfl rfl) rfl rfl rfl (p_gtr rfl rfl rfl) ?_
      refine DL.pu 35 (.bool (decide (300 < t40))) rfl (p_pick_f c37 rfl rfl rfl) ?_
      obtain rfl:=Option.some.inj h42
      exact DL.weak J36 (Sub.cons rfl (Sub.cons rfl (Sub.cons rfl (Sub.cons rfl (Sub.cons rfl (Sub.nil _))))))
   ·
    by_cases c29 : q17 = true
    ·
     have h30:=ite_true c29 h26
     refine DL.not (i:=12) rfl (Wn.yes c29 rfl rfl rfl rfl) rfl rfl ?_
     refine DL.not (i:=13) rfl (Wn.yes c29 rfl rfl rfl rfl) rfl rfl ?_
     refine DL.pu 30 (.bool true) rfl (p_pick_t c29 rfl rfl rfl) ?_
     obtain rfl:=Option.some.inj h30
     exact DL.weak J28 (Sub.cons rfl (Sub.cons rfl (Sub.cons rfl (Sub.cons rfl (Sub.cons rfl (Sub.nil _))))))
    ·
     replace c29:=Bool.eq_false_iff.mpr c29
     have h31:=ite_false c29 h26
     refine DL.pure (v:=.int .i64 a2) rfl (Wn.no c29 rfl rfl rfl rfl) rfl rfl rfl (p_move rfl rfl) ?_
     refine DL.pure (v:=.bool (decide (a2 < 0))) rfl (Wn.no c29 rfl rfl rfl rfl) rfl rfl rfl (p_lss rfl rfl rfl) ?_
     refine DL.pu 30 (.bool (decide (a2 < 0))) rfl (p_pick_f c29 rfl rfl rfl) ?_
     obtain rfl:=Option.some.inj h31
     exact DL.weak J28 (Sub.cons rfl (Sub.cons rfl (Sub.cons rfl (Sub.cons rfl (Sub.cons rfl (Sub.nil _))))))
  ·
   by_cases c21 : q6 = true
   ·
    have h22:=ite_true c21 h18
    refine DL.not (i:=8) rfl (Wn.yes c21 rfl rfl rfl rfl) rfl rfl ?_
    refine DL.not (i:=9) rfl (Wn.yes c21 rfl rfl rfl rfl) rfl rfl ?_
    refine DL.pu 26 (.bool true) rfl (p_pick_t c21 rfl rfl rfl) ?_
    obtain rfl:=Option.some.inj h22
    exact DL.weak J20 (Sub.cons rfl (Sub.cons rfl (Sub.cons rfl (Sub.cons rfl (Sub.cons rfl (Sub.nil _))))))
   ·
    replace c21:=Bool.eq_false_iff.mpr c21
    have h23:=ite_false c21 h18
    refine DL.pure (v:=.int .i64 a1) rfl (Wn.no c21 rfl rfl rfl rfl) rfl rfl rfl (p_move rfl rfl) ?_
    refine DL.pure (v:=.bool (decide (a1 < 0))) rfl (Wn.no c21 rfl rfl rfl rfl) rfl rfl rfl (p_lss rfl rfl rfl) ?_
    refine DL.pu 26 (.bool (decide (a1 < 0))) rfl (p_pick_f c21 rfl rfl rfl) ?_
    obtain rfl:=Option.some.inj h23
    exact DL.weak J20 (Sub.cons rfl (Sub.cons rfl (Sub.cons rfl (Sub.cons rfl (Sub.cons rfl (Sub.nil _))))))
 ·
  by_cases c10 : t2 = true
  ·
   have h11:=ite_true c10 h7
   refine DL.not (i:=3) rfl (Wn.yes c10 rfl rfl rfl rfl) rfl rfl ?_
   refine DL.not (i:=4) rfl (Wn.yes c10 rfl rfl rfl rfl) rfl rfl ?_
   refine DL.not (i:=5) rfl (Wn.yes c10 rfl rfl rfl rfl) rfl rfl ?_
   refine DL.pu 22 (.bool true) rfl (p_pick_t c10 rfl rfl rfl) ?_
   obtain rfl:=Option.some.inj h11
   exact DL.weak J9 (Sub.cons rfl (Sub.cons rfl (Sub.cons rfl (Sub.cons rfl (Sub.cons rfl (Sub.nil _))))))
  ·
   replace c10:=Bool.eq_false_iff.mpr c10
   have h12:=ite_false c10 h7
   refine DL.pure (v:=a0_v) rfl (Wn.no c10 rfl rfl rfl rfl) rfl rfl rfl (p_move rfl rfl) ?_
   obtain ⟨t13,h14,h15⟩:=bind_some h12
   refine DL.quiet (v:=.bool t13) rfl (Wn.no c10 rfl rfl rfl rfl) rfl rfl rfl (f_callR rfl rfl (args_val (vs:=[a0_v]) rfl) (fun w => enter14 _ w) (fun w hc => law29_all.val h14 (M:=M) w (hE.ext hc) hr_a0)) ?_
   refine DL.pure (v:=.bool (!t13)) rfl (Wn.no c10 rfl rfl rfl rfl) rfl rfl rfl (p_not rfl rfl) ?_
   refine DL.pu 22 (.bool (!t13)) rfl (p_pick_f c10 rfl rfl rfl) ?_
   obtain rfl:=Option.some.inj h15
   exact DL.weak J9 (Sub.cons rfl (Sub.cons rfl (Sub.cons rfl (Sub.cons rfl (Sub.cons rfl (Sub.nil _))))))
theorem law29_TermsSeals.val {a0 : List Tm} {a1 : Int} {a2 : Int} {a3 : Tm} {a0_v : Value} {a3_2 : Value} {r : Bool} (h : law29_TermsSeals.f a0 a1 a2 a3 = some r) {M : Mem} (w : World) (hM : Ext M (heapOf w)) (hG : Glob M) (hr_a0 : RowS ShTm M a0_v a0) (hr_a3_2 : RowS ShTm M a3_2 (Tree.kids a3)) : Calls Tryd.prog 5 #[a0_v,.int .i64 a1,.int .i64 a2,.agg (Tm.ce a3 a3_2)] w fun e w' => e = .returned (.bool r) ∧ Below w.heap.size w w' :=
 calls_value (law29_TermsSeals.ok h w hM hG hr_a0 hr_a3_2)

end Go.Proofs.YtfbogkhgfaibbaaDoor
