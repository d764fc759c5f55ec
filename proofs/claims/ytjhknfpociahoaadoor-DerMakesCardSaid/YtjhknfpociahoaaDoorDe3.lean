import Derived.Test.YtjhknfpociahoaaDoorDe2
namespace Go.Proofs.YtjhknfpociahoaaDoor
open Go Go.HW Go.RowKit
set_option linter.unusedVariables false
set_option linter.unusedSimpArgs false

/-! ### escutcheon/der.mayArcs$1: function 64 -/
noncomputable def B64 : Code:=bodyOf Tryd.f64
def der_mayArcs_1.f (a0 : Int) : Option (Bool):=some (decide (2147483647 < a0))
set_option maxRecDepth 20000 in
theorem der_mayArcs_1.ok {a0 : Int} {r : Bool} (h : der_mayArcs_1.f a0 = some r) {M : Mem} (w : World) (hM : Ext M (heapOf w)) : Calls Tryd.prog 64 #[.int .u64 a0] w (Post (fun u => u = .bool r) w):=by
 unfold der_mayArcs_1.f at h
 have hE:=Env.start hM
 refine calls_of_TT (N:=5) (S:=[(0,.int .u64 a0)]) (c:=B64) Tryd.func64 rfl rfl rfl (by simp) ?_
 show TT _ _ _ _ _ _ [.code (sub [] B64)] _ _
 refine TT.seq (x:=sub [0] B64) (y:=sub [1] B64) ?_
 refine TT.rg [0] [kp] rfl rfl ?_
 refine DL.pu 2 (.bool false) rfl (p_assign rfl rfl) ?_
 refine DL.nil ?_
 refine TT.seq (x:=sub [1,0] B64) (y:=sub [1,1] B64) ?_
 refine TT.rg [0,1,2] [kp,kp,kp] rfl rfl ?_
 refine DL.mv 3 (.int .u64 a0) rfl rfl rfl ?_
 refine DL.pu 4 (.bool (decide (2147483647 < a0))) rfl (p_gtr rfl rfl rfl) ?_
 refine DL.pu 2 (.bool (decide (2147483647 < a0))) rfl (p_assign rfl rfl) ?_
 refine DL.nil ?_
 obtain rfl:=Option.some.inj h
 exact retnE (rs:=[.tmp 2]) (vs:=[.bool (decide (2147483647 < a0))]) hE.base Tryd.func64 rfl rfl rfl (res_cons (ResV.tmp rfl) res_nil) rfl
theorem der_mayArcs_1.val {a0 : Int} {r : Bool} (h : der_mayArcs_1.f a0 = some r) {M : Mem} (w : World) (hM : Ext M (heapOf w)) : Calls Tryd.prog 64 #[.int .u64 a0] w fun e w' => e = .returned (.bool r) ∧ Below w.heap.size w w' :=
 calls_value (der_mayArcs_1.ok h w hM)

/-! ### slices.IndexFunc[[]uint64,uint64]: function 68 -/
noncomputable def B68 : Code:=bodyOf Tryd.f68
def indexFunc64.L0 (a0 : List Int) : Nat → Int → Option ((Unit) ⊕ (Int))
 | 0,_ => none
 | k + 1,x8_1 => if (decide (x8_1 < (a0.length : Int))) = true then (req (0 ≤ x8_1) (req (x8_1 < (a0.length : Int)) ((der_mayArcs_1.f (a0.getD x8_1.toNat 0)).bind fun t71 => if t71 = true then (some (.inr x8_1)) else (indexFunc64.L0 a0 k (IntKind.i64.wrap (x8_1 + 1)))))) else (some (.inl ()))
set_option maxRecDepth 20000 in
theorem indexFunc64.L0_ok (a0 : List Int) (a0_v : Value) {r : Int}  {w0 : World} {M0 M I : Mem} {K : List Item} (hE : Env w0 M0 M I) (hr_a0 : IntRow M .u64 a0_v a0) :
  ∀ (k : Nat) (x8_1 : Int) (q : (Unit) ⊕ (Int)) (h : indexFunc64.L0 a0 k x8_1 = some q) (hk : match (generalizing:=false) q with | .inl () => (TT Tryd.prog 68 (Post (fun u => u = .int .i64 r) w0) 19 w0 I K [] []) | .inr rq => rq = r),
   TT Tryd.prog 68 (Post (fun u => u = .int .i64 r) w0) 19 w0 I (.code (sub [1,0,1,0,0] B68) :: .inLoop (sub [1,0,1,0,0] B68) :: .inBlock 0 :: K) [(0,a0_v),(1,.func (.func 64) #[] #[]),(7,.int .i64 (a0.length : Int)),(8,.int .i64 x8_1)] []:=by
 intro k
 induction k with
 | zero => intro x8_1 q h; simp [indexFunc64.L0] at h
 | succ k ih =>
  intro x8_1 q h hk
  unfold indexFunc64.L0 at h
  refine TT.seq (x:=sub [1,0,1,0,0,0] B68) (y:=sub [1,0,1,0,0,1] B68) ?_
  refine TT.rg [0] [kp] rfl rfl ?_
  refine DL.pu 9 (.bool (decide (x8_1 < (a0.length : Int)))) rfl (p_lss rfl rfl rfl) ?_
  refine DL.nil ?_
  refine TT.seq (x:=sub [1,0,1,0,0,1,0] B68) (y:=sub [1,0,1,0,0,1,1] B68) ?_
  by_cases c65 : (decide (x8_1 < (a0.length : Int))) = true
  ·
   have h66:=ite_true c65 h
   refine TT.cond_true (x:=sub [1,0,1,0,0,1,0,0] B68) (y:=sub [1,0,1,0,0,1,0,1] B68) rfl c65 ?_
   refine TT.skip ?_
   refine TT.seq (x:=sub [1,0,1,0,0,1,1,0] B68) (y:=sub [1,0,1,0,0,1,1,1] B68) ?_
   refine TT.block (c:=sub [1,0,1,0,0,1,1,0,0] B68) ?_
   refine TT.seq (x:=sub [1,0,1,0,0,1,1,0,0,0] B68) (y:=sub [1,0,1,0,0,1,1,0,0,1] B68) ?_
   refine TT.rg [0,1] [kp,kp] rfl rfl ?_
   refine DL.mv 10 (.int .i64 x8_1) rfl rfl rfl ?_
   refine DL.pu 5 (.int .i64 x8_1) rfl (p_assign rfl rfl) ?_
   refine DL.nil ?_
   refine TT.seq (x:=sub [1,0,1,0,0,1,1,0,0,1,0] B68) (y:=sub [1,0,1,0,0,1,1,0,0,1,1] B68) ?_
   refine TT.rg [0,1,2,3,4,5] [kp,kp,kp,kp,kp,kq] rfl rfl ?_
   refine DL.mv 11 (.func (.func 64) #[] #[]) rfl rfl rfl ?_
   refine DL.mv 12 (a0_v) rfl rfl rfl ?_
   refine DL.mv 13 (.int .i64 x8_1) rfl rfl rfl ?_
   obtain ⟨g67,h68⟩:=req_some h66
   obtain ⟨g69,h70⟩:=req_some h68
   refine DL.pu 14 (elp a0_v x8_1.toNat) rfl (p_slIx1 ty_u24 ty_s50 (RowV.some hr_a0 g67 g69) g67 g69 rfl rfl rfl) ?_
   refine DL.imm (v:=.int .u64 (a0.getD x8_1.toNat 0)) rfl (Wn.none rfl) rfl rfl rfl (i_loadEl (RowV.mono hr_a0 hE.mi) (encl_get .u64 (lt_len g67 g69)) ty_a50 rfl rfl) ?_
   obtain ⟨t71,h72,h73⟩:=bind_some h70
   refine DL.qu 16 (.bool t71) rfl (f_callV (by simp) rfl rfl rfl (args_val (vs:=[.int .u64 (a0.getD x8_1.toNat 0)]) rfl) (fun w => enter64 _ w) (fun w hc => der_mayArcs_1.val h72 (M:=M) w (hE.ext hc) )) ?_
   refine DL.nil ?_
   by_cases c74 : t71 = true
   ·
    have h75:=ite_true c74 h73
    refine TT.cond_true (x:=sub [1,0,1,0,0,1,1,0,0,1,1,0] B68) (y:=sub [1,0,1,0,0,1,1,0,0,1,1,1] B68) rfl c74 ?_
    refine TT.seq (x:=sub [1,0,1,0,0,1,1,0,0,1,1,0,0] B68) (y:=sub [1,0,1,0,0,1,1,0,0,1,1,0,1] B68) ?_
    refine TT.rg [0,1] [kp,kp] rfl rfl ?_
    refine DL.mv 17 (.int .i64 x8_1) rfl rfl rfl ?_
    refine DL.pu 4 (.int .i64 x8_1) rfl (p_assign rfl rfl) ?_
    refine DL.nil ?_
    obtain rfl:=Option.some.inj h75
    have k76 : x8_1 = r:=hk
    subst k76
    exact retnE (rs:=[.tmp 4]) (vs:=[.int .i64 x8_1]) hE.base Tryd.func68 rfl rfl rfl (res_cons (ResV.tmp rfl) res_nil) rfl
   ·
    replace c74:=Bool.eq_false_iff.mpr c74
    have h77:=ite_false c74 h73
    refine TT.cond_false (x:=sub [1,0,1,0,0,1,1,0,0,1,1,0] B68) (y:=sub [1,0,1,0,0,1,1,0,0,1,1,1] B68) rfl c74 ?_
    refine TT.skip ?_
    refine TT.inBlock ?_
    refine TT.rg [0,1] [kp,kp] rfl rfl ?_
    refine DL.pu 18 (.int .i64 (IntKind.i64.wrap (x8_1 + 1))) rfl (p_add rfl rfl rfl) ?_
    refine DL.mv 8 (.int .i64 (IntKind.i64.wrap (x8_1 + 1))) rfl rfl rfl ?_
    refine DL.nil ?_
    refine TT.inLoop ?_
    exact TT.weak (ih (IntKind.i64.wrap (x8_1 + 1)) _ h77 hk) (Sub.cons rfl (Sub.cons rfl (Sub.cons rfl (Sub.cons rfl (Sub.nil _)))))
  ·
   replace c65:=Bool.eq_false_iff.mpr c65
   have h78:=ite_false c65 h
   refine TT.cond_false (x:=sub [1,0,1,0,0,1,0,0] B68) (y:=sub [1,0,1,0,0,1,0,1] B68) rfl c65 ?_
   refine TT.exit rfl ?_
   obtain rfl:=Option.some.inj h78
   exact TT.weak (hk) (Sub.nil _)

def indexFunc64.f (a0 : List Int) : Option (Int):=onw (indexFunc64.L0 a0 ((a0.length : Int).toNat + 1) 0) (fun _ => some (-1)) (fun r => some r)
set_option maxRecDepth 20000 in
theorem indexFunc64.ok {a0 : List Int} {a0_v : Value} {r : Int} (h : indexFunc64.f a0 = some r) {M : Mem} (w : World) (hM : Ext M (heapOf w)) (hr_a0 : IntRow M .u64 a0_v a0) : Calls Tryd.prog 68 #[a0_v,.func (.func 64) #[] #[]] w (Post (fun u => u = .int .i64 r) w):=by
 unfold indexFunc64.f at h
 have hE:=Env.start hM
 refine calls_of_TT (N:=19) (S:=[(0,a0_v),(1,.func (.func 64) #[] #[])]) (c:=B68) Tryd.func68 rfl rfl rfl (by simp) ?_
 show TT _ _ _ _ _ _ [.code (sub [] B68)] _ _
 refine TT.seq (x:=sub [0] B68) (y:=sub [1] B68) ?_
 refine TT.rg [0] [kp] rfl rfl ?_
 refine DL.pu 4 (.int .i64 0) rfl (p_assign rfl rfl) ?_
 refine DL.nil ?_
 refine TT.seq (x:=sub [1,0] B68) (y:=sub [1,1] B68) ?_
 refine TT.seq (x:=sub [1,0,0] B68) (y:=sub [1,0,1] B68) ?_
 refine TT.rg [0,1,2] [kp,kp,kp] rfl rfl ?_
 refine DL.mv 6 (a0_v) rfl rfl rfl ?_
 refine DL.pu 7 (.int .i64 (a0.length : Int)) rfl (p_slLen ty_u24 (RowV.sl hr_a0) rfl rfl) ?_
 refine DL.mv 8 (.int .i64 0) rfl rfl rfl ?_
 refine DL.nil ?_
 refine TT.block (c:=sub [1,0,1,0] B68) ?_
 refine TT.loop (c:=sub [1,0,1,0,0] B68) ?_
 rcases onw_some h with ⟨_,h79,h80⟩ | ⟨r82,h79,h80⟩
 ·
  refine TT.weak (indexFunc64.L0_ok a0 a0_v hE hr_a0 ((a0.length : Int).toNat + 1) 0 (.inl ()) h79 (?_)) (Sub.cons rfl (Sub.cons rfl (Sub.cons rfl (Sub.cons rfl (Sub.nil _)))))
  show TT _ _ _ _ _ _ _ _ _
  refine TT.seq (x:=sub [1,1,0] B68) (y:=sub [1,1,1] B68) ?_
  refine TT.rg [0] [kp] rfl rfl ?_
  refine DL.pu 4 (.int .i64 (-1)) rfl (p_assign rfl rfl) ?_
  refine DL.nil ?_
  obtain rfl:=Option.some.inj h80
  exact retnE (rs:=[.tmp 4]) (vs:=[.int .i64 (-1)]) hE.base Tryd.func68 rfl rfl rfl (res_cons (ResV.tmp rfl) res_nil) rfl
 ·
  obtain rfl:=Option.some.inj h80
  exact TT.weak (indexFunc64.L0_ok a0 a0_v hE hr_a0 ((a0.length : Int).toNat + 1) 0 (.inr r82) h79 rfl) (Sub.cons rfl (Sub.cons rfl (Sub.cons rfl (Sub.cons rfl (Sub.nil _)))))
theorem indexFunc64.val {a0 : List Int} {a0_v : Value} {r : Int} (h : indexFunc64.f a0 = some r) {M : Mem} (w : World) (hM : Ext M (heapOf w)) (hr_a0 : IntRow M .u64 a0_v a0) : Calls Tryd.prog 68 #[a0_v,.func (.func 64) #[] #[]] w fun e w' => e = .returned (.int .i64 r) ∧ Below w.heap.size w w' :=
 calls_value (indexFunc64.ok h w hM hr_a0)

/-! ### slices.ContainsFunc[[]uint64,uint64]: function 63 -/
noncomputable def B63 : Code:=bodyOf Tryd.f63
def containsFunc64.f (a0 : List Int) : Option (Bool):=(indexFunc64.f a0).bind fun t1 => some (decide (0 ≤ t1))
set_option maxRecDepth 20000 in
theorem containsFunc64.ok {a0 : List Int} {a0_v : Value} {r : Bool} (h : containsFunc64.f a0 = some r) {M : Mem} (w : World) (hM : Ext M (heapOf w)) (hr_a0 : IntRow M .u64 a0_v a0) : Calls Tryd.prog 63 #[a0_v,.func (.func 64) #[] #[]] w (Post (fun u => u = .bool r) w):=by
 unfold containsFunc64.f at h
 have hE:=Env.start hM
 refine calls_of_TT (N:=9) (S:=[(0,a0_v),(1,.func (.func 64) #[] #[])]) (c:=B63) Tryd.func63 rfl rfl rfl (by simp) ?_
 show TT _ _ _ _ _ _ [.code (sub [] B63)] _ _
 refine TT.seq (x:=sub [0] B63) (y:=sub [1] B63) ?_
 refine TT.rg [0] [kp] rfl rfl ?_
 refine DL.pu 4 (.bool false) rfl (p_assign rfl rfl) ?_
 refine DL.nil ?_
 refine TT.seq (x:=sub [1,0] B63) (y:=sub [1,1] B63) ?_
 refine TT.rg [0,1,2,3,4] [kp,kp,kq,kp,kp] rfl rfl ?_
 refine DL.mv 5 (a0_v) rfl rfl rfl ?_
 refine DL.mv 6 (.func (.func 64) #[] #[]) rfl rfl rfl ?_
 obtain ⟨t1,h2,h3⟩:=bind_some h
 refine DL.qu 7 (.int .i64 t1) rfl (f_callR rfl rfl (args_val (vs:=[a0_v,.func (.func 64) #[] #[]]) rfl) (fun w => enter68 _ w) (fun w hc => indexFunc64.val h2 (M:=M) w (hE.ext hc) hr_a0)) ?_
 refine DL.pu 8 (.bool (decide (0 ≤ t1))) rfl (p_geq rfl rfl rfl) ?_
 refine DL.pu 4 (.bool (decide (0 ≤ t1))) rfl (p_assign rfl rfl) ?_
 refine DL.nil ?_
 obtain rfl:=Option.some.inj h3
 exact retnE (rs:=[.tmp 4]) (vs:=[.bool (decide (0 ≤ t1))]) hE.base Tryd.func63 rfl rfl rfl (res_cons (ResV.tmp rfl) res_nil) rfl
theorem containsFunc64.val {a0 : List Int} {a0_v : Value} {r : Bool} (h : containsFunc64.f a0 = some r) {M : Mem} (w : World) (hM : Ext M (heapOf w)) (hr_a0 : IntRow M .u64 a0_v a0) : Calls Tryd.prog 63 #[a0_v,.func (.func 64) #[] #[]] w fun e w' => e = .returned (.bool r) ∧ Below w.heap.size w w' :=
 calls_value (containsFunc64.ok h w hM hr_a0)

/-! ### escutcheon/der.mayArcs: function 48 -/
noncomputable def B48 : Code:=bodyOf Tryd.f48
def der_mayArcs.f (a0 : List Int) : Option (Bool):=(if (decide (2 ≤ (a0.length : Int))) = true then (some (decide ((a0.length : Int) ≤ 16))) else (some false)).bind fun q2 => (if q2 = true then (req ((0 : Int) < (a0.length : Int)) (some (decide ((a0.getD ((0 : Int).toNat) 0) ≤ 2)))) else (some false)).bind fun q10 => (if q10 = true then (req ((0 : Int) < (a0.length : Int)) ((if ((a0.getD ((0 : Int).toNat) 0) == 2) = true then (some true) else (req ((1 : Int) < (a0.length : Int)) (some (decide ((a0.getD ((1 : Int).toNat) 0) < 40))))).bind fun q29 => some q29)) else (some false)).bind fun q20 => (if q20 = true then ((containsFunc64.f a0).bind fun t46 => some (!t46)) else (some false)).bind fun q40 => some q40
set_option maxRecDepth 20000 in
theorem der_mayArcs.ok {a0 : List Int} {a0_v : Value} {r : Bool} (h : der_mayArcs.f a0 = some r) {M : Mem} (w : World) (hM : Ext M (heapOf w)) (hr_a0 : IntRow M .u64 a0_v a0) : Calls Tryd.prog 48 #[a0_v] w (Post (fun u => u = .bool r) w):=by
 unfold der_mayArcs.f at h
 have hE:=Env.start hM
 refine calls_of_TT (N:=34) (S:=[(0,a0_v)]) (c:=B48) Tryd.func48 rfl rfl rfl (by simp) ?_
 show TT _ _ _ _ _ _ [.code (sub [] B48)] _ _
 refine TT.seq (x:=sub [0] B48) (y:=sub [1] B48) ?_
 refine TT.rg [0] [kp] rfl rfl ?_
 refine DL.pu 2 (.bool false) rfl (p_assign rfl rfl) ?_
 refine DL.nil ?_
 refine TT.seq (x:=sub [1,0] B48) (y:=sub [1,1] B48) ?_
 refine TT.rg [0,1,2,3,4,5,6,7,8,9,10,11,12,13,14,15,16,17,18,19,20,21,22,23,24,25,26,27,28,29,30,31] [kp,kp,kp,kp,kp,kp,kp,kp,kp,kp,kp,kp,kp,kp,kp,kp,kp,kp,kp,kp,kp,kp,kp,kp,kp,kp,kp,kp,kq,kp,kp,kp] rfl rfl ?_
 refine DL.mv 3 (a0_v) rfl rfl rfl ?_
 refine DL.pu 4 (.int .i64 (a0.length : Int)) rfl (p_slLen ty_u24 (RowV.sl hr_a0) rfl rfl) ?_
 refine DL.pu 5 (.bool (decide (2 ≤ (a0.length : Int)))) rfl (p_geq rfl rfl rfl) ?_
 refine DL.mv 6 (.bool (decide (2 ≤ (a0.length : Int)))) rfl rfl rfl ?_
 obtain ⟨q2,h3,h4⟩:=bind_some h
 refine DL.cut [(0,a0_v),(10,.bool q2)] [8,9,10,11,12,13,14,15,16,17,18,19,20,21,22,23,24,25,26,27,28,29,30,31] ?_ (fun J5 => ?_)
 ·
  refine DL.mv 11 (.bool q2) rfl rfl rfl ?_
  obtain ⟨q10,h11,h12⟩:=bind_some h4
  refine DL.cut [(0,a0_v),(16,.bool q10)] [14,15,16,17,18,19,20,21,22,23,24,25,26,27,28,29,30,31] ?_ (fun J13 => ?_)
  ·
   refine DL.mv 17 (.bool q10) rfl rfl rfl ?_
   obtain ⟨q20,h21,h22⟩:=bind_some h12
   refine DL.cut [(0,a0_v),(28,.bool q20)] [26,27,28,29,30,31] ?_ (fun J23 => ?_)
   ·
    refine DL.mv 29 (.bool q20) rfl rfl rfl ?_
    obtain ⟨q40,h41,h42⟩:=bind_some h22
    refine DL.cut [(33,.bool q40)] [31] ?_ (fun J43 => ?_)
    ·
     refine DL.pu 2 (.bool q40) rfl (p_assign rfl rfl) ?_
     refine DL.nil ?_
     obtain rfl:=Option.some.inj h42
     exact retnE (rs:=[.tmp 2]) (vs:=[.bool q40]) hE.base Tryd.func48 rfl rfl rfl (res_cons (ResV.tmp rfl) res_nil) rfl
    ·
     by_cases c44 : q20 = true
     ·
      have h45:=ite_true c44 h41
      refine DL.pure (v:=a0_v) rfl (Wn.yes c44 rfl rfl rfl rfl) rfl rfl rfl (p_move rfl rfl) ?_
      obtain ⟨t46,h47,h48⟩:=bind_some h45
      refine DL.quiet (v:=.bool t46) rfl (Wn.yes c44 rfl rfl rfl rfl) rfl rfl rfl (f_callR rfl rfl (args_val (vs:=[a0_v,.func (.func 64) #[] #[]]) rfl) (fun w => enter63 _ w) (fun w hc => containsFunc64.val h47 (M:=M) w (hE.ext hc) hr_a0)) ?_
      refine DL.pure (v:=.bool (!t46)) rfl (Wn.yes c44 rfl rfl rfl rfl) rfl rfl rfl (p_not rfl rfl) ?_
      refine DL.pu 33 (.bool (!t46)) rfl (p_pick_t c44 rfl rfl rfl) ?_
      obtain rfl:=Option.some.inj h48
      exact DL.weak J43 (Sub.cons rfl (Sub.nil _))
     ·
      replace c44:=Bool.eq_false_iff.mpr c44
      have h49:=ite_false c44 h41
      refine DL.not (i:=27) rfl (Wn.no c44 rfl rfl rfl rfl) rfl rfl ?_
      refine DL.not (i:=28) rfl (Wn.no c44 rfl rfl rfl rfl) rfl rfl ?_
      refine DL.not (i:=29) rfl (Wn.no c44 rfl rfl rfl rfl) rfl rfl ?_
      refine DL.pu 33 (.bool false) rfl (p_pick_f c44 rfl rfl rfl) ?_
      obtain rfl:=Option.some.inj h49
      exact DL.weak J43 (Sub.cons rfl (Sub.nil _))
   ·
    by_cases c24 : q10 = true
    ·
     have h25:=ite_true c24 h21
     refine DL.pure (v:=a0_v) rfl (Wn.yes c24 rfl rfl rfl rfl) rfl rfl rfl (p_move rfl rfl) ?_
     obtain ⟨g26,h27⟩:=req_some h25
     refine DL.pure (v:=elp a0_v ((0 : Int).toNat)) rfl (Wn.yes c24 rfl rfl rfl rfl) rfl rfl rfl (p_slIx1 ty_u24 ty_s50 (RowV.some hr_a0 (by decide) g26) (by decide) g26 rfl rfl rfl) ?_
     refine DL.imm (v:=.int .u64 (a0.getD ((0 : Int).toNat) 0)) rfl (Wn.yes c24 rfl rfl rfl rfl) rfl rfl rfl (i_loadEl (RowV.mono hr_a0 hE.mi) (encl_get .u64 (lt_len (by decide) g26)) ty_a50 rfl rfl) ?_
     refine DL.pure (v:=.bool ((a0.getD ((0 : Int).toNat) 0) == 2)) rfl (Wn.yes c24 rfl rfl rfl rfl) rfl rfl rfl (p_eql rfl rfl rfl) ?_
     refine DL.pure (v:=.bool ((a0.getD ((0 : Int).toNat) 0) == 2)) rfl (Wn.yes c24 rfl rfl rfl rfl) rfl rfl rfl (p_move rfl rfl) ?_
     obtain ⟨q29,h30,h31⟩:=bind_some h27
     refine DL.cut [(0,a0_v),(17,.bool q10),(27,.bool q29)] [25,26,27,28,29,30,31] ?_ (fun J32 => ?_)
     ·
      refine DL.pu 28 (.bool q29) rfl (p_pick_t c24 rfl rfl rfl) ?_
      obtain rfl:=Option.some.inj h31
      exact DL.weak J23 (Sub.cons rfl (Sub.cons rfl (Sub.nil _)))
     ·
      by_cases c33 : ((a0.getD ((0 : Int).toNat) 0) == 2) = true
      ·
       have h34:=ite_true c33 h30
       refine DL.not (i:=20) rfl (Wn.yes c33 rfl rfl rfl rfl) rfl rfl ?_
       refine DL.not (i:=21) rfl (Wn.yes c33 rfl rfl rfl rfl) rfl rfl ?_
       refine DL.not (i:=22) rfl (Wn.yes c33 rfl rfl rfl rfl) rfl rfl ?_
       refine DL.not (i:=23) rfl (Wn.yes c33 rfl rfl rfl rfl) rfl rfl ?_
       refine DL.pure (v:=.bool true) rfl (Wn.yes c24 rfl rfl rfl rfl) rfl rfl rfl (p_pick_t c33 rfl rfl rfl) ?_
       obtain rfl:=Option.some.inj h34
       exact DL.weak J32 (Sub.cons rfl (Sub.cons rfl (Sub.cons rfl (Sub.nil _))))
      ·
       replace c33:=Bool.eq_false_iff.mpr c33
       have h35:=ite_false c33 h30
       refine DL.pure (v:=a0_v) rfl (Wn.no c33 rfl rfl rfl rfl) rfl rfl rfl (p_move rfl rfl) ?_
       obtain ⟨g36,h37⟩:=req_some h35
       refine DL.pure (v:=elp a0_v ((1 : Int).toNat)) rfl (Wn.no c33 rfl rfl rfl rfl) rfl rfl rfl (p_slIx1 ty_u24 ty_s50 (RowV.some hr_a0 (by decide) g36) (by decide) g36 rfl rfl rfl) ?_
       refine DL.imm (v:=.int .u64 (a0.getD ((1 : Int).toNat) 0)) rfl (Wn.no c33 rfl rfl rfl rfl) rfl rfl rfl (i_loadEl (RowV.mono hr_a0 hE.mi) (encl_get .u64 (lt_len (by decide) g36)) ty_a50 rfl rfl) ?_
       refine DL.pure (v:=.bool (decide ((a0.getD ((1 : Int).toNat) 0) < 40))) rfl (Wn.no c33 rfl rfl rfl rfl) rfl rfl rfl (p_lss rfl rfl rfl) ?_
       refine DL.pure (v:=.bool (decide ((a0.getD ((1 : Int).toNat) 0) < 40))) rfl (Wn.yes c24 rfl rfl rfl rfl) rfl rfl rfl (p_pick_f c33 rfl rfl rfl) ?_
       obtain rfl:=Option.some.inj h37
       exact DL.weak J32 (Sub.cons rfl (Sub.cons rfl (Sub.cons rfl (Sub.nil _))))
    ·
     replace c24:=Bool.eq_false_iff.mpr c24
     have h38:=ite_false c24 h21
     refine DL.not (i:=15) rfl (Wn.no c24 rfl rfl rfl rfl) rfl rfl ?_
     refine DL.not (i:=16) rfl (Wn.no c24 rfl rfl rfl rfl) rfl rfl ?_
     refine DL.not (i:=17) rfl (Wn.no c24 rfl rfl rfl rfl) rfl rfl ?_
     refine DL.not (i:=18) rfl (Wn.no c24 rfl rfl rfl rfl) rfl rfl ?_
     refine DL.not (i:=19) rfl (Wn.no c24 rfl rfl rfl rfl) rfl rfl ?_
     refine DL.not (i:=20) rfl (Wn.undef rfl rfl rfl) rfl rfl ?_
     refine DL.not (i:=21) rfl (Wn.undef rfl rfl rfl) rfl rfl ?_
     refine DL.not (i:=22) rfl (Wn.undef rfl rfl rfl) rfl rfl ?_
     refine DL.not (i:=23) rfl (Wn.undef rfl rfl rfl) rfl rfl ?_
     refine DL.not (i:=24) rfl (Wn.no c24 rfl rfl rfl rfl) rfl rfl ?_
     refine DL.pu 28 (.bool false) rfl (p_pick_f c24 rfl rfl rfl) ?_
     obtain rfl:=Option.some.inj h38
     exact DL.weak J23 (Sub.cons rfl (Sub.cons rfl (Sub.nil _)))
  ·
   by_cases c14 : q2 = true
   ·
    have h15:=ite_true c14 h11
    refine DL.pure (v:=a0_v) rfl (Wn.yes c14 rfl rfl rfl rfl) rfl rfl rfl (p_move rfl rfl) ?_
    obtain ⟨g16,h17⟩:=req_some h15
    refine DL.pure (v:=elp a0_v ((0 : Int).toNat)) rfl (Wn.yes c14 rfl rfl rfl rfl) rfl rfl rfl (p_slIx1 ty_u24 ty_s50 (RowV.some hr_a0 (by decide) g16) (by decide) g16 rfl rfl rfl) ?_
    refine DL.imm (v:=.int .u64 (a0.getD ((0 : Int).toNat) 0)) rfl (Wn.yes c14 rfl rfl rfl rfl) rfl rfl rfl (i_loadEl (RowV.mono hr_a0 hE.mi) (encl_get .u64 (lt_len (by decide) g16)) ty_a50 rfl rfl) ?_
    refine DL.pure (v:=.bool (decide ((a0.getD ((0 : Int).toNat) 0) ≤ 2))) rfl (Wn.yes c14 rfl rfl rfl rfl) rfl rfl rfl (p_leq rfl rfl rfl) ?_
    refine DL.pu 16 (.bool (decide ((a0.getD ((0 : Int).toNat) 0) ≤ 2))) rfl (p_pick_t c14 rfl rfl rfl) ?_
    obtain rfl:=Option.some.inj h17
    exact DL.weak J13 (Sub.cons rfl (Sub.cons rfl (Sub.nil _)))
   ·
    replace c14:=Bool.eq_false_iff.mpr c14
    have h18:=ite_false c14 h11
    refine DL.not (i:=9) rfl (Wn.no c14 rfl rfl rfl rfl) rfl rfl ?_
    refine DL.not (i:=10) rfl (Wn.no c14 rfl rfl rfl rfl) rfl rfl ?_
    refine DL.not (i:=11) rfl (Wn.no c14 rfl rfl rfl rfl) rfl rfl ?_
    refine DL.not (i:=12) rfl (Wn.no c14 rfl rfl rfl rfl) rfl rfl ?_
    refine DL.pu 16 (.bool false) rfl (p_pick_f c14 rfl rfl rfl) ?_
    obtain rfl:=Option.some.inj h18
    exact DL.weak J13 (Sub.cons rfl (Sub.cons rfl (Sub.nil _)))
 ·
  by_cases c6 : (decide (2 ≤ (a0.length : Int))) = true
  ·
   have h7:=ite_true c6 h3
   refine DL.pure (v:=a0_v) rfl (Wn.yes c6 rfl rfl rfl rfl) rfl rfl rfl (p_move rfl rfl) ?_
   refine DL.pure (v:=.int .i64 (a0.length : Int)) rfl (Wn.yes c6 rfl rfl rfl rfl) rfl rfl rfl (p_slLen ty_u24 (RowV.sl hr_a0) rfl rfl) ?_
   refine DL.pure (v:=.bool (decide ((a0.length : Int) ≤ 16))) rfl (Wn.yes c6 rfl rfl rfl rfl) rfl rfl rfl (p_leq rfl rfl rfl) ?_
   refine DL.pu 10 (.bool (decide ((a0.length : Int) ≤ 16))) rfl (p_pick_t c6 rfl rfl rfl) ?_
   obtain rfl:=Option.some.inj h7
   exact DL.weak J5 (Sub.cons rfl (Sub.cons rfl (Sub.nil _)))
  ·
   replace c6:=Bool.eq_false_iff.mpr c6
   have h8:=ite_false c6 h3
   refine DL.not (i:=4) rfl (Wn.no c6 rfl rfl rfl rfl) rfl rfl ?_
   refine DL.not (i:=5) rfl (Wn.no c6 rfl rfl rfl rfl) rfl rfl ?_
   refine DL.not (i:=6) rfl (Wn.no c6 rfl rfl rfl rfl) rfl rfl ?_
   refine DL.pu 10 (.bool false) rfl (p_pick_f c6 rfl rfl rfl) ?_
   obtain rfl:=Option.some.inj h8
   exact DL.weak J5 (Sub.cons rfl (Sub.cons rfl (Sub.nil _)))
theorem der_mayArcs.val {a0 : List Int} {a0_v : Value} {r : Bool} (h : der_mayArcs.f a0 = some r) {M : Mem} (w : World) (hM : Ext M (heapOf w)) (hr_a0 : IntRow M .u64 a0_v a0) : Calls Tryd.prog 48 #[a0_v] w fun e w' => e = .returned (.bool r) ∧ Below w.heap.size w w' :=
 calls_value (der_mayArcs.ok h w hM hr_a0)

/-! ### escutcheon/der.tags: function 43 -/
noncomputable def B43 : Code:=bodyOf Tryd.f43
def der_tags.f : Option (Unit):=some ()
set_option maxRecDepth 20000 in
theorem der_tags.ok (h : der_tags.f = some ()) {M : Mem} (w : World) (hM : Ext M (heapOf w)) : Calls Tryd.prog 43 #[] w (PostH (G:=Nat) (fun g => .map (some g)) (fun g => [(some g,mobj .i64 [(1,.int .u8 1),(2,.int .u8 2),(3,.int .u8 3),(4,.int .u8 4),(5,.int .u8 6),(6,.int .u8 12),(10,.int .u8 24),(7,.int .u8 48),(9,.int .u8 49),(8,.int .u8 160)])]) (fun _ => True) w):=by
 unfold der_tags.f at h
 have hE:=Env.start hM
 refine calls_of_TT (N:=3) (S:=[]) (c:=B43) Tryd.func43 rfl rfl rfl (by simp) ?_
 show TT _ _ _ _ _ _ [.code (sub [] B43)] _ _
 refine TT.seq (x:=sub [0] B43) (y:=sub [1] B43) ?_
 refine TT.rg [0] [kp] rfl rfl ?_
 refine DL.pu 0 (.map none) rfl (p_assign rfl rfl) ?_
 refine DL.nil ?_
 refine TT.seq (x:=sub [1,0] B43) (y:=sub [1,1] B43) ?_
 refine TT.rg [0,1,2,3,4,5,6,7,8,9,10,11,12] [(.alloc,none),(.store,none),(.store,none),(.store,none),(.store,none),(.store,none),(.store,none),(.store,none),(.store,none),(.store,none),(.store,none),kp,kp] rfl rfl ?_
 refine DL.new (ob:=mobj .i64 []) (mk:=fun b => .map (some b)) (i:=0) rfl (Wn.none rfl) rfl rfl rfl (f_makeMap rfl) ?_
 intro b1 hb1
 refine DL.put (H':=[(some b1,mobj .i64 [(1,.int .u8 1)])]) (i:=1) rfl (Wn.none rfl) rfl rfl (f_insert (l:=[]) (a:=1) (v:=.int .u8 1) (j:=0) ty_u68 ty_u22 rfl rfl rfl rfl rfl rfl) (keep_none rfl) ?_
 refine DL.put (H':=[(some b1,mobj .i64 [(1,.int .u8 1),(2,.int .u8 2)])]) (i:=2) rfl (Wn.none rfl) rfl rfl (f_insert (l:=[(1,.int .u8 1)]) (a:=2) (v:=.int .u8 2) (j:=0) ty_u68 ty_u22 rfl rfl rfl rfl rfl rfl) (keep_none rfl) ?_
 refine DL.put (H':=[(some b1,mobj .i64 [(1,.int .u8 1),(2,.int .u8 2),(3,.int .u8 3)])]) (i:=3) rfl (Wn.none rfl) rfl rfl (f_insert (l:=[(1,.int .u8 1),(2,.int .u8 2)]) (a:=3) (v:=.int .u8 3) (j:=0) ty_u68 ty_u22 rfl rfl rfl rfl rfl rfl) (keep_none rfl) ?_
 refine DL.put (H':=[(some b1,mobj .i64 [(1,.int .u8 1),(2,.int .u8 2),(3,.int .u8 3),(4,.int .u8 4)])]) (i:=4) rfl (Wn.none rfl) rfl rfl (f_insert (l:=[(1,.int .u8 1),(2,.int .u8 2),(3,.int .u8 3)]) (a:=4) (v:=.int .u8 4) (j:=0) ty_u68 ty_u22 rfl rfl rfl rfl rfl rfl) (keep_none rfl) ?_
 refine DL.put (H':=[(some b1,mobj .i64 [(1,.int .u8 1),(2,.int .u8 2),(3,.int .u8 3),(4,.int .u8 4),(5,.int .u8 6)])]) (i:=5) rfl (Wn.none rfl) rfl rfl (f_insert (l:=[(1,.int .u8 1),(2,.int .u8 2),(3,.int .u8 3),(4,.int .u8 4)]) (a:=5) (v:=.int .u8 6) (j:=0) ty_u68 ty_u22 rfl rfl rfl rfl rfl rfl) (keep_none rfl) ?_
 refine DL.put (H':=[(some b1,mobj .i64 [(1,.int .u8 1),(2,.int .u8 2),(3,.int .u8 3),(4,.int .u8 4),(5,.int .u8 6),(6,.int .u8 12)])]) (i:=6) rfl (Wn.none rfl) rfl rfl (f_insert (l:=[(1,.int .u8 1),(2,.int .u8 2),(3,.int .u8 3),(4,.int .u8 4),(5,.int .u8 6)]) (a:=6) (v:=.int .u8 12) (j:=0) ty_u68 ty_u22 rfl rfl rfl rfl rfl rfl) (keep_none rfl) ?_
 refine DL.put (H':=[(some b1,mobj .i64 [(1,.int .u8 1),(2,.int .u8 2),(3,.int .u8 3),(4,.int .u8 4),(5,.int .u8 6),(6,.int .u8 12),(10,.int .u8 24)])]) (i:=7) rfl (Wn.none rfl) rfl rfl (f_insert (l:=[(1,.int .u8 1),(2,.int .u8 2),(3,.int .u8 3),(4,.int .u8 4),(5,.int .u8 6),(6,.int .u8 12)]) (a:=10) (v:=.int .u8 24) (j:=0) ty_u68 ty_u22 rfl rfl rfl rfl rfl rfl) (keep_none rfl) ?_
 refine DL.put (H':=[(some b1,mobj .i64 [(1,.int .u8 1),(2,.int .u8 2),(3,.int .u8 3),(4,.int .u8 4),(5,.int .u8 6),(6,.int .u8 12),(10,.int .u8 24),(7,.int .u8 48)])]) (i:=8) rfl (Wn.none rfl) rfl rfl (f_insert (l:=[(1,.int .u8 1),(2,.int .u8 2),(3,.int .u8 3),(4,.int .u8 4),(5,.int .u8 6),(6,.int .u8 12),(10,.int .u8 24)]) (a:=7) (v:=.int .u8 48) (j:=0) ty_u68 ty_u22 rfl rfl rfl rfl rfl rfl) (keep_none rfl) ?_
 refine DL.put (H':=[(some b1,mobj .i64 [(1,.int .u8 1),(2,.int .u8 2),(3,.int .u8 3),(4,.int .u8 4),(5,.int .u8 6),(6,.int .u8 12),(10,.int .u8 24),(7,.int .u8 48),(9,.int .u8 49)])]) (i:=9) rfl (Wn.none rfl) rfl rfl (f_insert (l:=[(1,.int .u8 1),(2,.int .u8 2),(3,.int .u8 3),(4,.int .u8 4),(5,.int .u8 6),(6,.int .u8 12),(10,.int .u8 24),(7,.int .u8 48)]) (a:=9) (v:=.int .u8 49) (j:=0) ty_u68 ty_u22 rfl rfl rfl rfl rfl rfl) (keep_none rfl) ?_
 refine DL.put (H':=[(some b1,mobj .i64 [(1,.int .u8 1),(2,.int .u8 2),(3,.int .u8 3),(4,.int .u8 4),(5,.int .u8 6),(6,.int .u8 12),(10,.int .u8 24),(7,.int .u8 48),(9,.int .u8 49),(8,.int .u8 160)])]) (i:=10) rfl (Wn.none rfl) rfl rfl (f_insert (l:=[(1,.int .u8 1),(2,.int .u8 2),(3,.int .u8 3),(4,.int .u8 4),(5,.int .u8 6),(6,.int .u8 12),(10,.int .u8 24),(7,.int .u8 48),(9,.int .u8 49)]) (a:=8) (v:=.int .u8 160) (j:=0) ty_u68 ty_u22 rfl rfl rfl rfl rfl rfl) (keep_none rfl) ?_
 refine DL.mv 2 (.map (some b1)) rfl rfl rfl ?_
 refine DL.pu 0 (.map (some b1)) rfl (p_assign rfl rfl) ?_
 refine DL.nil ?_
 exact retH (rs:=[.tmp 0]) (vs:=[.map (some b1)]) b1 Tryd.func43 rfl rfl rfl (fun i r u hr hu => by match i,hr,hu with | 0,hr,hu => cases hr; cases hu; exact ResV.tmp rfl) trivial (.cons_cons _ (List.Sublist.refl []))

@[reducible] def der_may.Rec (r_ : Der → Int → Option (Bool)) : Prop:=∀ {a0 : Der} {a1 : Int} {a0_3 : Value} {a0_5 : Value} {a0_6 : Value} {r : Bool},r_ a0 a1 = some r → ∀ {M : Mem} (w : World) (hM : Ext M (heapOf w)) (hG : Glob M) (hr_a0_3 : IntRow M .u8 a0_3 (Der.bytes a0)) (hr_a0_5 : IntRow M .u64 a0_5 (Der.arcs a0)) (hr_a0_6 : RowS ShDer M a0_6 (Tree.kids a0)),Calls Tryd.prog 33 #[.agg (Der.ce a0 a0_3 a0_5 a0_6),.int .i64 a1] w (fun e w' => e = .returned (.bool r) ∧ Below w.heap.size w w')

/-! ### escutcheon/der.may$1: function 52 -/
noncomputable def B52 : Code:=bodyOf Tryd.f52
def der_may_1.f (r_der_may : Der → Int → Option (Bool)) (a0 : Der) (c0 : Int) : Option (Bool):=(r_der_may a0 (IntKind.i64.wrap (c0 - 1))).bind fun t2 => some (!t2)
set_option maxRecDepth 20000 in
theorem der_may_1.ok {r_der_may : Der → Int → Option (Bool)} (hr_der_may : der_may.Rec r_der_may) {a0 : Der} {c0 : Int} {a0_3 : Value} {a0_5 : Value} {a0_6 : Value} {c0_b : Nat} {r : Bool} (h : der_may_1.f r_der_may a0 c0 = some r) {M : Mem} (w : World) (hM : Ext M (heapOf w)) (hG : Glob M) (hr_a0_3 : IntRow M .u8 a0_3 (Der.bytes a0)) (hr_a0_5 : IntRow M .u64 a0_5 (Der.arcs a0)) (hr_a0_6 : RowS ShDer M a0_6 (Tree.kids a0)) (hb_c0 : (M) c0_b = some (.cells #[.int .i64 c0] 3 (0,0))) : Calls Tryd.prog 52 #[.agg (Der.ce a0 a0_3 a0_5 a0_6),ptr c0_b 0] w (Post (fun u => u = .bool r) w):=by
 unfold der_may_1.f at h
 have hE:=Env.start hM
 refine calls_of_TT (N:=9) (S:=[(0,.agg (Der.ce a0 a0_3 a0_5 a0_6)),(1,ptr c0_b 0)]) (c:=B52) Tryd.func52 rfl rfl rfl (by simp) ?_
 show TT _ _ _ _ _ _ [.code (sub [] B52)] _ _
 refine TT.seq (x:=sub [0] B52) (y:=sub [1] B52) ?_
 refine TT.rg [0,1] [(.alloc,none),kp] rfl rfl ?_
 refine DL.new (ob:=.cells ((Der.ce a0 a0_3 a0_5 a0_6)) 27) (mk:=fun b => ptr b 0) (i:=0) rfl (Wn.none rfl) rfl rfl rfl (f_box (v:=.agg (Der.ce a0 a0_3 a0_5 a0_6)) rfl rfl) ?_
 intro b1 hb1
 refine DL.pu 3 (.bool false) rfl (p_assign rfl rfl) ?_
 refine DL.nil ?_
 refine TT.seq (x:=sub [1,0] B52) (y:=sub [1,1] B52) ?_
 refine TT.rg [0,1,2,3,4,5] [kq,kp,kp,kq,kp,kp] rfl rfl ?_
 refine DL.qu 4 (.agg (Der.ce a0 a0_3 a0_5 a0_6)) rfl (f_loadA (j:=0) ty_a27 ty_s27 rfl rfl rfl rfl) ?_
 refine DL.imm (v:=.int .i64 c0) rfl (Wn.none rfl) rfl rfl rfl (i_loadBox (hE.mi _ _ hb_c0) rfl ty_a3 rfl rfl) ?_
 refine DL.pu 6 (.int .i64 (IntKind.i64.wrap (c0 - 1))) rfl (p_sub rfl rfl rfl) ?_
 obtain ⟨t2,h3,h4⟩:=bind_some h
 refine DL.qu 7 (.bool t2) rfl (f_callR rfl rfl (args_val (vs:=[.agg (Der.ce a0 a0_3 a0_5 a0_6),.int .i64 (IntKind.i64.wrap (c0 - 1))]) rfl) (fun w => enter33 _ w) (fun w hc => hr_der_may h3 (M:=M) w (hE.ext hc) hG hr_a0_3 hr_a0_5 hr_a0_6)) ?_
 refine DL.pu 8 (.bool (!t2)) rfl (p_not rfl rfl) ?_
 refine DL.pu 3 (.bool (!t2)) rfl (p_assign rfl rfl) ?_
 refine DL.nil ?_
 obtain rfl:=Option.some.inj h4
 exact retnE (rs:=[.tmp 3]) (vs:=[.bool (!t2)]) hE.base Tryd.func52 rfl rfl rfl (res_cons (ResV.tmp rfl) res_nil) rfl
theorem der_may_1.val {r_der_may : Der → Int → Option (Bool)} (hr_der_may : der_may.Rec r_der_may) {a0 : Der} {c0 : Int} {a0_3 : Value} {a0_5 : Value} {a0_6 : Value} {c0_b : Nat} {r : Bool} (h : der_may_1.f r_der_may a0 c0 = some r) {M : Mem} (w : World) (hM : Ext M (heapOf w)) (hG : Glob M) (hr_a0_3 : IntRow M .u8 a0_3 (Der.bytes a0)) (hr_a0_5 : IntRow M .u64 a0_5 (Der.arcs a0)) (hr_a0_6 : RowS ShDer M a0_6 (Tree.kids a0)) (hb_c0 : (M) c0_b = some (.cells #[.int .i64 c0] 3 (0,0))) : Calls Tryd.prog 52 #[.agg (Der.ce a0 a0_3 a0_5 a0_6),ptr c0_b 0] w fun e w' => e = .returned (.bool r) ∧ Below w.heap.size w w' :=
 calls_value (der_may_1.ok hr_der_may h w hM hG hr_a0_3 hr_a0_5 hr_a0_6 hb_c0)

/-! ### slices.IndexFunc[[]escutcheon/api.Der,escutcheon/api.Der]: function 66 -/
noncomputable def B66 : Code:=bodyOf Tryd.f66
def indexFuncMay.L0 (r_der_may : Der → Int → Option (Bool)) (a0 : List Der) (a1_c0 : Int) : Nat → Int → Option ((Unit) ⊕ (Int))
 | 0,_ => none
 | k + 1,x8_1 => if (decide (x8_1 < (a0.length : Int))) = true then (req (0 ≤ x8_1) (req (x8_1 < (a0.length : Int)) (nm (a0.getD x8_1.toNat Der.dflt) fun t76 => (der_may_1.f r_der_may t76 a1_c0).bind fun t79 => if t79 = true then (some (.inr x8_1)) else (indexFuncMay.L0 r_der_may a0 a1_c0 k (IntKind.i64.wrap (x8_1 + 1)))))) else (some (.inl ()))
set_option maxRecDepth 20000 in
theorem indexFuncMay.L0_ok {r_der_may : Der → Int → Option (Bool)} (hr_der_may : der_may.Rec r_der_may) (a0 : List Der) (a0_v : Value) (a1_c0 : Int) (a1_c0_b : Nat) {r : Int}  {w0 : World} {M0 M I : Mem} {K : List Item} (hE : Env w0 M0 M I) (hG : Glob M) (hr_a0 : RowS ShDer M a0_v a0) (hb_a1_c0 : (M) a1_c0_b = some (.cells #[.int .i64 a1_c0] 3 (0,0))) :
  ∀ (k : Nat) (x8_1 : Int) (q : (Unit) ⊕ (Int)) (h : indexFuncMay.L0 r_der_may a0 a1_c0 k x8_1 = some q) (hk : match (generalizing:=false) q with | .inl () => (TT Tryd.prog 66 (Post (fun u => u = .int .i64 r) w0) 19 w0 I K [] []) | .inr rq => rq = r),
   TT Tryd.prog 66 (Post (fun u => u = .int .i64 r) w0) 19 w0 I (.code (sub [1,0,1,0,0] B66) :: .inLoop (sub [1,0,1,0,0] B66) :: .inBlock 0 :: K) [(0,a0_v),(1,.func (.func 52) #[] #[ptr a1_c0_b 0]),(7,.int .i64 (a0.length : Int)),(8,.int .i64 x8_1)] []:=by
 intro k
 induction k with
 | zero => intro x8_1 q h; simp [indexFuncMay.L0] at h
 | succ k ih =>
  intro x8_1 q h hk
  unfold indexFuncMay.L0 at h
  refine TT.seq (x:=sub [1,0,1,0,0,0] B66) (y:=sub [1,0,1,0,0,1] B66) ?_
  refine TT.rg [0] [kp] rfl rfl ?_
  refine DL.pu 9 (.bool (decide (x8_1 < (a0.length : Int)))) rfl (p_lss rfl rfl rfl) ?_
  refine DL.nil ?_
  refine TT.seq (x:=sub [1,0,1,0,0,1,0] B66) (y:=sub [1,0,1,0,0,1,1] B66) ?_
  by_cases c69 : (decide (x8_1 < (a0.length : Int))) = true
  ·
   have h70:=ite_true c69 h
   refine TT.cond_true (x:=sub [1,0,1,0,0,1,0,0] B66) (y:=sub [1,0,1,0,0,1,0,1] B66) rfl c69 ?_
   refine TT.skip ?_
   refine TT.seq (x:=sub [1,0,1,0,0,1,1,0] B66) (y:=sub [1,0,1,0,0,1,1,1] B66) ?_
   refine TT.block (c:=sub [1,0,1,0,0,1,1,0,0] B66) ?_
   refine TT.seq (x:=sub [1,0,1,0,0,1,1,0,0,0] B66) (y:=sub [1,0,1,0,0,1,1,0,0,1] B66) ?_
   refine TT.rg [0,1] [kp,kp] rfl rfl ?_
   refine DL.mv 10 (.int .i64 x8_1) rfl rfl rfl ?_
   refine DL.pu 5 (.int .i64 x8_1) rfl (p_assign rfl rfl) ?_
   refine DL.nil ?_
   refine TT.seq (x:=sub [1,0,1,0,0,1,1,0,0,1,0] B66) (y:=sub [1,0,1,0,0,1,1,0,0,1,1] B66) ?_
   refine TT.rg [0,1,2,3,4,5] [kp,kp,kp,kp,kp,kq] rfl rfl ?_
   refine DL.mv 11 (.func (.func 52) #[] #[ptr a1_c0_b 0]) rfl rfl rfl ?_
   refine DL.mv 12 (a0_v) rfl rfl rfl ?_
   refine DL.mv 13 (.int .i64 x8_1) rfl rfl rfl ?_
   obtain ⟨g71,h72⟩:=req_some h70
   obtain ⟨g73,h74⟩:=req_some h72
   refine DL.pu 14 (elp a0_v (x8_1.toNat * 7)) rfl (p_slIx ty_u25 ty_s27 (RowS.some hr_a0 g71 g73) g71 g73 rfl rfl rfl) ?_
   obtain ⟨t76,e77,h78⟩:=nm_some h74
   obtain ⟨cs75,hc75,hl75⟩:=id (hr_a0)
   have q75:=hl75 _ _ (getD_some Der.dflt (lt_len g71 g73)); rw [← e77] at q75
   obtain ⟨t76_3,t76_5,t76_6,hq75,hr_t76_3,hr_t76_5,hr_t76_6⟩:=Der.op q75
   refine DL.imm (v:=.agg (Der.ce t76 t76_3 t76_5 t76_6)) rfl (Wn.none rfl) rfl rfl rfl (i_loadElA (RowV.mono hc75 hE.mi) hq75 (lt_len g71 g73) ty_a27 ty_s27 rfl rfl) ?_
   obtain ⟨t79,h80,h81⟩:=bind_some h78
   refine DL.qu 16 (.bool t79) rfl (f_callV (by simp) rfl rfl rfl (args_val (vs:=[.agg (Der.ce t76 t76_3 t76_5 t76_6)]) rfl) (fun w => enter52 _ w) (fun w hc => der_may_1.val hr_der_may h80 (M:=M) w (hE.ext hc) hG hr_t76_3 hr_t76_5 hr_t76_6 hb_a1_c0)) ?_
   refine DL.nil ?_
   by_cases c82 : t79 = true
   ·
    have h83:=ite_true c82 h81
    refine TT.cond_true (x:=sub [1,0,1,0,0,1,1,0,0,1,1,0] B66) (y:=sub [1,0,1,0,0,1,1,0,0,1,1,1] B66) rfl c82 ?_
    refine TT.seq (x:=sub [1,0,1,0,0,1,1,0,0,1,1,0,0] B66) (y:=sub [1,0,1,0,0,1,1,0,0,1,1,0,1] B66) ?_
    refine TT.rg [0,1] [kp,kp] rfl rfl ?_
    refine DL.mv 17 (.int .i64 x8_1) rfl rfl rfl ?_
    refine DL.pu 4 (.int .i64 x8_1) rfl (p_assign rfl rfl) ?_
    refine DL.nil ?_
    obtain rfl:=Option.some.inj h83
    have k84 : x8_1 = r:=hk
    subst k84
    exact retnE (rs:=[.tmp 4]) (vs:=[.int .i64 x8_1]) hE.base Tryd.func66 rfl rfl rfl (res_cons (ResV.tmp rfl) res_nil) rfl
   ·
    replace c82:=Bool.eq_false_iff.mpr c82
    have h85:=ite_false c82 h81
    refine TT.cond_false (x:=sub [1,0,1,0,0,1,1,0,0,1,1,0] B66) (y:=sub [1,0,1,0,0,1,1,0,0,1,1,1] B66) rfl c82 ?_
    refine TT.skip ?_
    refine TT.inBlock ?_
    refine TT.rg [0,1] [kp,kp] rfl rfl ?_
    refine DL.pu 18 (.int .i64 (IntKind.i64.wrap (x8_1 + 1))) rfl (p_add rfl rfl rfl) ?_
    refine DL.mv 8 (.int .i64 (IntKind.i64.wrap (x8_1 + 1))) rfl rfl rfl ?_
    refine DL.nil ?_
    refine TT.inLoop ?_
    exact TT.weak (ih (IntKind.i64.wrap (x8_1 + 1)) _ h85 hk) (Sub.cons rfl (Sub.cons rfl (Sub.cons rfl (Sub.cons rfl (Sub.nil _)))))
  ·
   replace c69:=Bool.eq_false_iff.mpr c69
   have h86:=ite_false c69 h
   refine TT.cond_false (x:=sub [1,0,1,0,0,1,0,0] B66) (y:=sub [1,0,1,0,0,1,0,1] B66) rfl c69 ?_
   refine TT.exit rfl ?_
   obtain rfl:=Option.some.inj h86
   exact TT.weak (hk) (Sub.nil _)

def indexFuncMay.f (r_der_may : Der → Int → Option (Bool)) (a0 : List Der) (a1_c0 : Int) : Option (Int):=onw (indexFuncMay.L0 r_der_may a0 a1_c0 ((a0.length : Int).toNat + 1) 0) (fun _ => some (-1)) (fun r => some r)
set_option maxRecDepth 20000 in
theorem indexFuncMay.ok {r_der_may : Der → Int → Option (Bool)} (hr_der_may : der_may.Rec r_der_may) {a0 : List Der} {a1_c0 : Int} {a0_v : Value} {a1_c0_b : Nat} {r : Int} (h : indexFuncMay.f r_der_may a0 a1_c0 = some r) {M : Mem} (w : World) (hM : Ext M (heapOf w)) (hG : Glob M) (hr_a0 : RowS ShDer M a0_v a0) (hb_a1_c0 : (M) a1_c0_b = some (.cells #[.int .i64 a1_c0] 3 (0,0))) : Calls Tryd.prog 66 #[a0_v,.func (.func 52) #[] #[ptr a1_c0_b 0]] w (Post (fun u => u = .int .i64 r) w):=by
 unfold indexFuncMay.f at h
 have hE:=Env.start hM
 refine calls_of_TT (N:=19) (S:=[(0,a0_v),(1,.func (.func 52) #[] #[ptr a1_c0_b 0])]) (c:=B66) Tryd.func66 rfl rfl rfl (by simp) ?_
 show TT _ _ _ _ _ _ [.code (sub [] B66)] _ _
 refine TT.seq (x:=sub [0] B66) (y:=sub [1] B66) ?_
 refine TT.rg [0] [kp] rfl rfl ?_
 refine DL.pu 4 (.int .i64 0) rfl (p_assign rfl rfl) ?_
 refine DL.nil ?_
 refine TT.seq (x:=sub [1,0] B66) (y:=sub [1,1] B66) ?_
 refine TT.seq (x:=sub [1,0,0] B66) (y:=sub [1,0,1] B66) ?_
 refine TT.rg [0,1,2] [kp,kp,kp] rfl rfl ?_
 refine DL.mv 6 (a0_v) rfl rfl rfl ?_
 refine DL.pu 7 (.int .i64 (a0.length : Int)) rfl (p_slLen ty_u25 (RowS.sl hr_a0) rfl rfl) ?_
 refine DL.mv 8 (.int .i64 0) rfl rfl rfl ?_
 refine DL.nil ?_
 refine TT.block (c:=sub [1,0,1,0] B66) ?_
 refine TT.loop (c:=sub [1,0,1,0,0] B66) ?_
 rcases onw_some h with ⟨_,h87,h88⟩ | ⟨r90,h87,h88⟩
 ·
  refine TT.weak (indexFuncMay.L0_ok hr_der_may a0 a0_v a1_c0 a1_c0_b hE hG hr_a0 hb_a1_c0 ((a0.length : Int).toNat + 1) 0 (.inl ()) h87 (?_)) (Sub.cons rfl (Sub.cons rfl (Sub.cons rfl (Sub.cons rfl (Sub.nil _)))))
  show TT _ _ _ _ _ _ _ _ _
  refine TT.seq (x:=sub [1,1,0] B66) (y:=sub [1,1,1] B66) ?_
  refine TT.rg [0] [kp] rfl rfl ?_
  refine DL.pu 4 (.int .i64 (-1)) rfl (p_assign rfl rfl) ?_
  refine DL.nil ?_
  obtain rfl:=Option.some.inj h88
  exact retnE (rs:=[.tmp 4]) (vs:=[.int .i64 (-1)]) hE.base Tryd.func66 rfl rfl rfl (res_cons (ResV.tmp rfl) res_nil) rfl
 ·
  obtain rfl:=Option.some.inj h88
  exact TT.weak (indexFuncMay.L0_ok hr_der_may a0 a0_v a1_c0 a1_c0_b hE hG hr_a0 hb_a1_c0 ((a0.length : Int).toNat + 1) 0 (.inr r90) h87 rfl) (Sub.cons rfl (Sub.cons rfl (Sub.cons rfl (Sub.cons rfl (Sub.nil _)))))
theorem indexFuncMay.val {r_der_may : Der → Int → Option (Bool)} (hr_der_may : der_may.Rec r_der_may) {a0 : List Der} {a1_c0 : Int} {a0_v : Value} {a1_c0_b : Nat} {r : Int} (h : indexFuncMay.f r_der_may a0 a1_c0 = some r) {M : Mem} (w : World) (hM : Ext M (heapOf w)) (hG : Glob M) (hr_a0 : RowS ShDer M a0_v a0) (hb_a1_c0 : (M) a1_c0_b = some (.cells #[.int .i64 a1_c0] 3 (0,0))) : Calls Tryd.prog 66 #[a0_v,.func (.func 52) #[] #[ptr a1_c0_b 0]] w fun e w' => e = .returned (.int .i64 r) ∧ Below w.heap.size w w' :=
 calls_value (indexFuncMay.ok hr_der_may h w hM hG hr_a0 hb_a1_c0)

/-! ### slices.ContainsFunc[[]escutcheon/api.Der,escutcheon/api.Der]: function 51 -/
noncomputable def B51 : Code:=bodyOf Tryd.f51
def containsFuncMay.f (r_der_may : Der → Int → Option (Bool)) (a0 : List Der) (a1_c0 : Int) : Option (Bool):=(indexFuncMay.f r_der_may a0 a1_c0).bind fun t1 => some (decide (0 ≤ t1))
set_option maxRecDepth 20000 in
theorem containsFuncMay.ok {r_der_may : Der → Int → Option (Bool)} (hr_der_may : der_may.Rec r_der_may) {a0 : List Der} {a1_c0 : Int} {a0_v : Value} {a1_c0_b : Nat} {r : Bool} (h : containsFuncMay.f r_der_may a0 a1_c0 = some r) {M : Mem} (w : World) (hM : Ext M (heapOf w)) (hG : Glob M) (hr_a0 : RowS ShDer M a0_v a0) (hb_a1_c0 : (M) a1_c0_b = some (.cells #[.int .i64 a1_c0] 3 (0,0))) : Calls Tryd.prog 51 #[a0_v,.func (.func 52) #[] #[ptr a1_c0_b 0]] w (Post (fun u => u = .bool r) w):=by
 unfold containsFuncMay.f at h
 have hE:=Env.start hM
 refine calls_of_TT (N:=9) (S:=[(0,a0_v),(1,.func (.func 52) #[] #[ptr a1_c0_b 0])]) (c:=B51) Tryd.func51 rfl rfl rfl (by simp) ?_
 show TT _ _ _ _ _ _ [.code (sub [] B51)] _ _
 refine TT.seq (x:=sub [0] B51) (y:=sub [1] B51) ?_
 refine TT.rg [0] [kp] rfl rfl ?_
 refine DL.pu 4 (.bool false) rfl (p_assign rfl rfl) ?_
 refine DL.nil ?_
 refine TT.seq (x:=sub [1,0] B51) (y:=sub [1,1] B51) ?_
 refine TT.rg [0,1,2,3,4] [kp,kp,kq,kp,kp] rfl rfl ?_
 refine DL.mv 5 (a0_v) rfl rfl rfl ?_
 refine DL.mv 6 (.func (.func 52) #[] #[ptr a1_c0_b 0]) rfl rfl rfl ?_
 obtain ⟨t1,h2,h3⟩:=bind_some h
 refine DL.qu 7 (.int .i64 t1) rfl (f_callR rfl rfl (args_val (vs:=[a0_v,.func (.func 52) #[] #[ptr a1_c0_b 0]]) rfl) (fun w => enter66 _ w) (fun w hc => indexFuncMay.val hr_der_may h2 (M:=M) w (hE.ext hc) hG hr_a0 hb_a1_c0)) ?_
 refine DL.pu 8 (.bool (decide (0 ≤ t1))) rfl (p_geq rfl rfl rfl) ?_
 refine DL.pu 4 (.bool (decide (0 ≤ t1))) rfl (p_assign rfl rfl) ?_
 refine DL.nil ?_
 obtain rfl:=Option.some.inj h3
 exact retnE (rs:=[.tmp 4]) (vs:=[.bool (decide (0 ≤ t1))]) hE.base Tryd.func51 rfl rfl rfl (res_cons (ResV.tmp rfl) res_nil) rfl
theorem containsFuncMay.val {r_der_may : Der → Int → Option (Bool)} (hr_der_may : der_may.Rec r_der_may) {a0 : List Der} {a1_c0 : Int} {a0_v : Value} {a1_c0_b : Nat} {r : Bool} (h : containsFuncMay.f r_der_may a0 a1_c0 = some r) {M : Mem} (w : World) (hM : Ext M (heapOf w)) (hG : Glob M) (hr_a0 : RowS ShDer M a0_v a0) (hb_a1_c0 : (M) a1_c0_b = some (.cells #[.int .i64 a1_c0] 3 (0,0))) : Calls Tryd.prog 51 #[a0_v,.func (.func 52) #[] #[ptr a1_c0_b 0]] w fun e w' => e = .returned (.bool r) ∧ Below w.heap.size w w' :=
 calls_value (containsFuncMay.ok hr_der_may h w hM hG hr_a0 hb_a1_c0)

/-! ### escutcheon/der.may: function 33 -/
noncomputable def B33 : Code:=bodyOf Tryd.f33
def der_may.F (r_der_may : Der → Int → Option (Bool)) (a0 : Der) (a1 : Int) : Option (Bool):=(der_tags.f).bind fun _ => nm (assocD [(1,1),(2,2),(3,3),(4,4),(5,6),(6,12),(10,24),(7,48),(9,49),(8,160)] (Der.kind a0)) fun t8 => nm (assocB [(1,1),(2,2),(3,3),(4,4),(5,6),(6,12),(10,24),(7,48),(9,49),(8,160)] (Der.kind a0)) fun t11 => (if (!t11) = true then (some true) else (some (decide (a1 < 1)))).bind fun q16 => (if q16 = true then (some true) else ((der_bare.f a0).bind fun t31 => (der_Same.f (Der.fuel a0) a0 t31).bind fun t35 => some (!t35))).bind fun q24 => if q24 = true then (some false) else (if ((Der.kind a0) == 5) = true then ((der_mayArcs.f (Der.arcs a0)).bind fun t44 => some t44) else (if ((Der.kind a0) == 6) = true then (req ((Der.text a0).length ≤ 9223372036854775807) (nm (Lib.validD (Der.text a0)) fun t52 => some t52)) else (if ((Der.kind a0) == 10) = true then ((der_mayTime.f (Der.text a0)).bind fun t58 => some t58) else (if ((Der.kind a0) == 8) = true then ((if (decide ((Der.num a0) < 0)) = true then (some true) else (some (decide (30 < (Der.num a0))))).bind fun q65 => if q65 = true then (some false) else (if (((Tree.kids a0).length : Int) != 1) = true then (some false) else ((containsFuncMay.f r_der_may (Tree.kids a0) a1).bind fun t78 => some (!t78)))) else (if ((Der.kind a0) == 9) = true then (if (((Tree.kids a0).length : Int) != 1) = true then (some false) else ((containsFuncMay.f r_der_may (Tree.kids a0) a1).bind fun t87 => some (!t87))) else ((containsFuncMay.f r_der_may (Tree.kids a0) a1).bind fun t91 => some (!t91)))))))
set_option maxRecDepth 20000 in
theorem der_may.okF {r_der_may : Der → Int → Option (Bool)} (hr_der_may : der_may.Rec r_der_may) {a0 : Der} {a1 : Int} {a0_3 : Value} {a0_5 : Value} {a0_6 : Value} {r : Bool} (h : der_may.F r_der_may a0 a1 = some r) {M : Mem} (w : World) (hM : Ext M (heapOf w)) (hG : Glob M) (hr_a0_3 : IntRow M .u8 a0_3 (Der.bytes a0)) (hr_a0_5 : IntRow M .u64 a0_5 (Der.arcs a0)) (hr_a0_6 : RowS ShDer M a0_6 (Tree.kids a0)) : Calls Tryd.prog 33 #[.agg (Der.ce a0 a0_3 a0_5 a0_6),.int .i64 a1] w (Post (fun u => u = .bool r) w):=by
 unfold der_may.F at h
 have hE:=Env.start hM
 refine calls_of_TT (N:=65) (S:=[(0,.agg (Der.ce a0 a0_3 a0_5 a0_6)),(1,.int .i64 a1)]) (c:=B33) Tryd.func33 rfl rfl rfl (by simp) ?_
 show TT _ _ _ _ _ _ [.code (sub [] B33)] _ _
 refine TT.seq (x:=sub [0] B33) (y:=sub [1] B33) ?_
 refine TT.rg [0,1,2] [(.alloc,none),(.alloc,none),kp] rfl rfl ?_
 refine DL.new (ob:=.cells ((Der.ce a0 a0_3 a0_5 a0_6)) 27) (mk:=fun b => ptr b 0) (i:=0) rfl (Wn.none rfl) rfl rfl rfl (f_box (v:=.agg (Der.ce a0 a0_3 a0_5 a0_6)) rfl rfl) ?_
 intro b1 hb1
 refine DL.new (ob:=.cells (#[.int .i64 a1]) 3) (mk:=fun b => ptr b 0) (i:=1) rfl (Wn.none rfl) rfl rfl rfl (f_box (v:=.int .i64 a1) rfl rfl) ?_
 intro b2 hb2
 refine DL.pu 4 (.bool false) rfl (p_assign rfl rfl) ?_
 refine DL.nil ?_
 refine TT.seq (x:=sub [1,0] B33) (y:=sub [1,1] B33) ?_
 refine TT.seq (x:=sub [1,0,0] B33) (y:=sub [1,0,1] B33) ?_
 refine TT.rgD [1,2,0,3,4,5,6,7,8] [0,0,2,7,15,31,31,63,255] [kk,kp,(.look,some 1),kq,kp,kp,kp,kp,kp] rfl mixed (by kernel_rfl) ?_
 intro w3 hl3 hj3 hz3
 refine DL.pu 9 (ptr b1 0) rfl (p_fieldAddr ty_f27_0 rfl rfl) ?_
 refine DL.look (v:=.int .i64 (Der.kind a0)) (x:=1) (b:=b1) (i:=2) rfl (Wn.none rfl) rfl rfl rfl rfl rfl (List.mem_of_getElem? (i:=1) rfl) (b_load ty_a22 rfl rfl rfl) ?_
 obtain ⟨_,h4,h5⟩:=bind_some h
 refine DL.handK (v:=fun g => .map (some g)) (E:=fun g => [(some g,mobj .i64 [(1,.int .u8 1),(2,.int .u8 2),(3,.int .u8 3),(4,.int .u8 4),(5,.int .u8 6),(6,.int .u8 12),(10,.int .u8 24),(7,.int .u8 48),(9,.int .u8 49),(8,.int .u8 160)])]) (p:=fun _ => True) (i:=0) rfl (Wn.none rfl) rfl rfl rfl (f_callH (by simp) rfl rfl rfl (args_val (vs:=[]) rfl) (fun w => enter43 _ w) (fun w hc => der_tags.ok h4 (M:=heapOf w) w (Ext.refl _))) ?_
 intro b7 _; dsimp only [List.cons_append,List.nil_append]
 obtain ⟨t8,e9,h10⟩:=nm_some h5
 obtain ⟨t11,e12,h13⟩:=nm_some h10
 refine DL.qu 11 (.tuple #[.int .u8 t8,.bool t11]) rfl (by rw [e9,e12,← mfind_intD .u8,← assoc_isSome .u8]; exact f_lookupOk (a:=(Der.kind a0)) (j:=0) ty_u68 ty_u22 ty_z5 rfl rfl rfl rfl) ?_
 refine DL.mv 7 (.tuple #[.int .u8 t8,.bool t11]) rfl rfl rfl ?_
 refine DL.pu 12 (.int .u8 t8) rfl (p_extract rfl rfl rfl) ?_
 refine DL.pu 13 (.bool t11) rfl (p_extract rfl rfl rfl) ?_
 refine DL.pu 5 (.int .u8 t8) rfl (p_assign rfl rfl) ?_
 refine DL.pu 6 (.bool t11) rfl (p_assign rfl rfl) ?_
 refine DL.nil' hl3 ?_
 refine TT.seq (x:=sub [1,0,1,0] B33) (y:=sub [1,0,1,1] B33) ?_
 refine TT.rgD [0,1,2,3,4,5,6,7,8,9,10,11,12] [0,1,3,7,15,31,63,127,127,383,1023,2047,4095] [kp,kp,kp,(.look,some 1),kp,kp,kp,(.look,some 2),(.look,some 2),kk,kq,kp,kp] rfl mixed (by kernel_rfl) ?_
 intro w14 hl14 hj14 hz14
 refine DL.mv 14 (.bool t11) rfl rfl rfl ?_
 refine DL.pu 15 (.bool (!t11)) rfl (p_not rfl rfl) ?_
 refine DL.mv 16 (.bool (!t11)) rfl rfl rfl ?_
 obtain ⟨q16,h17,h18⟩:=bind_some h13
 refine DL.cut [(2,ptr b1 0),(3,ptr b2 0),(19,.bool q16)] [6,7,8,9,10,11,12] ?_ (fun J19 => ?_)
 ·
  refine DL.mv 20 (.bool q16) rfl rfl rfl ?_
  obtain ⟨q24,h25,h26⟩:=bind_some h18
  refine DL.cutJ [(some b7,mobj .i64 [(1,.int .u8 1),(2,.int .u8 2),(3,.int .u8 3),(4,.int .u8 4),(5,.int .u8 6),(6,.int .u8 12),(10,.int .u8 24),(7,.int .u8 48),(9,.int .u8 49),(8,.int .u8 160)]),(some b2,.cells (#[.int .i64 a1]) 3 (0,0)),(some b1,.cells ((Der.ce a0 a0_3 a0_5 a0_6)) 27 (0,0))] M hE [(2,ptr b1 0),(3,ptr b2 0),(26,.bool q24)] [] ?_ (fun J27 => ?_)
  ·
   intro M28 J28 hE28 hx28
   show DL _ _ _ _ _ _ _ _ _ _ _ _ ((some b7,mobj .i64 [(1,.int .u8 1),(2,.int .u8 2),(3,.int .u8 3),(4,.int .u8 4),(5,.int .u8 6),(6,.int .u8 12),(10,.int .u8 24),(7,.int .u8 48),(9,.int .u8 49),(8,.int .u8 160)]) :: (some b2,.cells (#[.int .i64 a1]) 3 (0,0)) :: (some b1,.cells ((Der.ce a0 a0_3 a0_5 a0_6)) 27 (0,0)) :: J28)
   refine DL.nil' hl14 ?_
   refine TT.settle (A:=[(some b7,mobj .i64 [(1,.int .u8 1),(2,.int .u8 2),(3,.int .u8 3),(4,.int .u8 4),(5,.int .u8 6),(6,.int .u8 12),(10,.int .u8 24),(7,.int .u8 48),(9,.int .u8 49),(8,.int .u8 160)]),(some b2,.cells (#[.int .i64 a1]) 3 (0,0)),(some b1,.cells ((Der.ce a0 a0_3 a0_5 a0_6)) 27 (0,0))]) (J:=J28) hE28 ?_
   intro I38 hE38 hxI38
   by_cases c39 : q24 = true
   ·
    have h40:=ite_true c39 h26
    refine TT.cond_true (x:=sub [1,0,1,1,0] B33) (y:=sub [1,0,1,1,1] B33) rfl c39 ?_
    refine TT.seq (x:=sub [1,0,1,1,0,0] B33) (y:=sub [1,0,1,1,0,1] B33) ?_
    refine TT.rg [0] [kp] rfl rfl ?_
    refine DL.pu 4 (.bool false) rfl (p_assign rfl rfl) ?_
    refine DL.nil ?_
    obtain rfl:=Option.some.inj h40
    exact retnE (rs:=[.tmp 4]) (vs:=[.bool false]) hE38.base Tryd.func33 rfl rfl rfl (res_cons (ResV.tmp rfl) res_nil) rfl
   ·
    replace c39:=Bool.eq_false_iff.mpr c39
    have h41:=ite_false c39 h26
    refine TT.cond_false (x:=sub [1,0,1,1,0] B33) (y:=sub [1,0,1,1,1] B33) rfl c39 ?_
    refine TT.skip ?_
    refine TT.seq (x:=sub [1,1,0] B33) (y:=sub [1,1,1] B33) ?_
    refine TT.seq (x:=sub [1,1,0,0] B33) (y:=sub [1,1,0,1] B33) ?_
    refine TT.rg [0,1] [kp,kq] rfl rfl ?_
    refine DL.pu 27 (ptr b1 0) rfl (p_fieldAddr ty_f27_0 rfl rfl) ?_
    refine DL.qu 28 (.int .i64 (Der.kind a0)) rfl (f_load (j:=2) ty_a22 rfl rfl rfl rfl) ?_
    refine DL.nil ?_
    refine TT.block (c:=sub [1,1,0,1,0] B33) ?_
    refine TT.seq (x:=sub [1,1,0,1,0,0] B33) (y:=sub [1,1,0,1,0,1] B33) ?_
    refine TT.block (c:=sub [1,1,0,1,0,0,0] B33) ?_
    refine TT.seq (x:=sub [1,1,0,1,0,0,0,0] B33) (y:=sub [1,1,0,1,0,0,0,1] B33) ?_
    refine TT.block (c:=sub [1,1,0,1,0,0,0,0,0] B33) ?_
    refine TT.seq (x:=sub [1,1,0,1,0,0,0,0,0,0] B33) (y:=sub [1,1,0,1,0,0,0,0,0,1] B33) ?_
    refine TT.block (c:=sub [1,1,0,1,0,0,0,0,0,0,0] B33) ?_
    refine TT.seq (x:=sub [1,1,0,1,0,0,0,0,0,0,0,0] B33) (y:=sub [1,1,0,1,0,0,0,0,0,0,0,1] B33) ?_
    refine TT.block (c:=sub [1,1,0,1,0,0,0,0,0,0,0,0,0] B33) ?_
    refine TT.seq (x:=sub [1,1,0,1,0,0,0,0,0,0,0,0,0,0] B33) (y:=sub [1,1,0,1,0,0,0,0,0,0,0,0,0,1] B33) ?_
    refine TT.block (c:=sub [1,1,0,1,0,0,0,0,0,0,0,0,0,0,0] B33) ?_
    refine TT.seq (x:=sub [1,1,0,1,0,0,0,0,0,0,0,0,0,0,0,0] B33) (y:=sub [1,1,0,1,0,0,0,0,0,0,0,0,0,0,0,1] B33) ?_
    refine TT.seq (x:=sub [1,1,0,1,0,0,0,0,0,0,0,0,0,0,0,0,0] B33) (y:=sub [1,1,0,1,0,0,0,0,0,0,0,0,0,0,0,0,1] B33) ?_
    refine TT.seq (x:=sub [1,1,0,1,0,0,0,0,0,0,0,0,0,0,0,0,0,0] B33) (y:=sub [1,1,0,1,0,0,0,0,0,0,0,0,0,0,0,0,0,1] B33) ?_
    refine TT.rg [0,1] [kp,kp] rfl rfl ?_
    refine DL.pu 30 (.bool ((Der.kind a0) == 5)) rfl (p_eql rfl rfl rfl) ?_
    refine DL.pu 29 (.bool ((Der.kind a0) == 5)) rfl (p_assign rfl rfl) ?_
    refine DL.nil ?_
    by_cases c42 : ((Der.kind a0) == 5) = true
    ·
     have h43:=ite_true c42 h41
     refine TT.cond_true (x:=sub [1,1,0,1,0,0,0,0,0,0,0,0,0,0,0,0,0,1,0] B33) (y:=sub [1,1,0,1,0,0,0,0,0,0,0,0,0,0,0,0,0,1,1] B33) rfl c42 ?_
     refine TT.exit rfl ?_
     refine TT.seq (x:=sub [1,1,0,1,0,0,0,0,0,0,0,0,0,1,0] B33) (y:=sub [1,1,0,1,0,0,0,0,0,0,0,0,0,1,1] B33) ?_
     refine TT.seq (x:=sub [1,1,0,1,0,0,0,0,0,0,0,0,0,1,0,0] B33) (y:=sub [1,1,0,1,0,0,0,0,0,0,0,0,0,1,0,1] B33) ?_
     refine TT.rg [0,1,2,3] [kp,kq,kq,kp] rfl rfl ?_
     refine DL.pu 39 (ptr b1 5) rfl (p_fieldAddr ty_f27_5 rfl rfl) ?_
     refine DL.qu 40 (a0_5) rfl (f_load (j:=2) ty_a24 rfl rfl rfl rfl) ?_
     obtain ⟨t44,h45,h46⟩:=bind_some h43
     refine DL.qu 41 (.bool t44) rfl (f_callR rfl rfl (args_val (vs:=[a0_5]) rfl) (fun w => enter48 _ w) (fun w hc => der_mayArcs.val h45 (M:=M28) w (hE38.ext hc) (IntRow.mono hr_a0_5 hx28))) ?_
     refine DL.pu 4 (.bool t44) rfl (p_assign rfl rfl) ?_
     refine DL.nil ?_
     obtain rfl:=Option.some.inj h46
     exact retnE (rs:=[.tmp 4]) (vs:=[.bool t44]) hE38.base Tryd.func33 rfl rfl rfl (res_cons (ResV.tmp rfl) res_nil) rfl
    ·
     replace c42:=Bool.eq_false_iff.mpr c42
     have h47:=ite_false c42 h41
     refine TT.cond_false (x:=sub [1,1,0,1,0,0,0,0,0,0,0,0,0,0,0,0,0,1,0] B33) (y:=sub [1,1,0,1,0,0,0,0,0,0,0,0,0,0,0,0,0,1,1] B33) rfl c42 ?_
     refine TT.skip ?_
     refine TT.seq (x:=sub [1,1,0,1,0,0,0,0,0,0,0,0,0,0,0,0,1,0] B33) (y:=sub [1,1,0,1,0,0,0,0,0,0,0,0,0,0,0,0,1,1] B33) ?_
     refine TT.seq (x:=sub [1,1,0,1,0,0,0,0,0,0,0,0,0,0,0,0,1,0,0] B33) (y:=sub [1,1,0,1,0,0,0,0,0,0,0,0,0,0,0,0,1,0,1] B33) ?_
     refine TT.rg [0,1] [kp,kp] rfl rfl ?_
     refine DL.pu 32 (.bool ((Der.kind a0) == 6)) rfl (p_eql rfl rfl rfl) ?_
     refine DL.pu 31 (.bool ((Der.kind a0) == 6)) rfl (p_assign rfl rfl) ?_
     refine DL.nil ?_
     by_cases c48 : ((Der.kind a0) == 6) = true
     ·
      have h49:=ite_true c48 h47
      refine TT.cond_true (x:=sub [1,1,0,1,0,0,0,0,0,0,0,0,0,0,0,0,1,0,1,0] B33) (y:=sub [1,1,0,1,0,0,0,0,0,0,0,0,0,0,0,0,1,0,1,1] B33) rfl c48 ?_
      refine TT.exit rfl ?_
      refine TT.seq (x:=sub [1,1,0,1,0,0,0,0,0,0,0,1,0] B33) (y:=sub [1,1,0,1,0,0,0,0,0,0,0,1,1] B33) ?_
      refine TT.seq (x:=sub [1,1,0,1,0,0,0,0,0,0,0,1,0,0] B33) (y:=sub [1,1,0,1,0,0,0,0,0,0,0,1,0,1] B33) ?_
      refine TT.rg [0,1,2,3] [kp,kq,kq,kp] rfl rfl ?_
      refine DL.pu 42 (ptr b1 4) rfl (p_fieldAddr ty_f27_4 rfl rfl) ?_
      refine DL.qu 43 (str (Der.text a0)) rfl (f_load (j:=2) ty_a9 rfl rfl rfl rfl) ?_
      obtain ⟨g50,h51⟩:=req_some h49
      obtain ⟨t52,e53,h54⟩:=nm_some h51
      refine DL.qu 44 (.bool t52) rfl (by rw [e53]; exact f_callR rfl rfl (args_val (vs:=[str (Der.text a0)]) rfl) (fun w => enter49 _ w) (fun w hc => valid_ok (Glob.mono hG hx28) _ g50 w (hE38.ext hc))) ?_
      refine DL.pu 4 (.bool t52) rfl (p_assign rfl rfl) ?_
      refine DL.nil ?_
      obtain rfl:=Option.some.inj h54
      exact retnE (rs:=[.tmp 4]) (vs:=[.bool t52]) hE38.base Tryd.func33 rfl rfl rfl (res_cons (ResV.tmp rfl) res_nil) rfl
     ·
      replace c48:=Bool.eq_false_iff.mpr c48
      have h55:=ite_false c48 h47
      refine TT.cond_false (x:=sub [1,1,0,1,0,0,0,0,0,0,0,0,0,0,0,0,1,0,1,0] B33) (y:=sub [1,1,0,1,0,0,0,0,0,0,0,0,0,0,0,0,1,0,1,1] B33) rfl c48 ?_
      refine TT.skip ?_
      refine TT.seq (x:=sub [1,1,0,1,0,0,0,0,0,0,0,0,0,0,0,0,1,1,0] B33) (y:=sub [1,1,0,1,0,0,0,0,0,0,0,0,0,0,0,0,1,1,1] B33) ?_
      refine TT.seq (x:=sub [1,1,0,1,0,0,0,0,0,0,0,0,0,0,0,0,1,1,0,0] B33) (y:=sub [1,1,0,1,0,0,0,0,0,0,0,0,0,0,0,0,1,1,0,1] B33) ?_
      refine TT.rg [0,1] [kp,kp] rfl rfl ?_
      refine DL.pu 34 (.bool ((Der.kind a0) == 10)) rfl (p_eql rfl rfl rfl) ?_
      refine DL.pu 33 (.bool ((Der.kind a0) == 10)) rfl (p_assign rfl rfl) ?_
      refine DL.nil ?_
      by_cases c56 : ((Der.kind a0) == 10) = true
      ·
       have h57:=ite_true c56 h55
       refine TT.cond_true (x:=sub [1,1,0,1,0,0,0,0,0,0,0,0,0,0,0,0,1,1,0,1,0] B33) (y:=sub [1,1,0,1,0,0,0,0,0,0,0,0,0,0,0,0,1,1,0,1,1] B33) rfl c56 ?_
       refine TT.exit rfl ?_
       refine TT.seq (x:=sub [1,1,0,1,0,0,0,0,0,1,0] B33) (y:=sub [1,1,0,1,0,0,0,0,0,1,1] B33) ?_
       refine TT.seq (x:=sub [1,1,0,1,0,0,0,0,0,1,0,0] B33) (y:=sub [1,1,0,1,0,0,0,0,0,1,0,1] B33) ?_
       refine TT.rg [0,1,2,3] [kp,kq,kq,kp] rfl rfl ?_
       refine DL.pu 45 (ptr b1 4) rfl (p_fieldAddr ty_f27_4 rfl rfl) ?_
       refine DL.qu 46 (str (Der.text a0)) rfl (f_load (j:=2) ty_a9 rfl rfl rfl rfl) ?_
       obtain ⟨t58,h59,h60⟩:=bind_some h57
       refine DL.qu 47 (.bool t58) rfl (f_callR rfl rfl (args_val (vs:=[str (Der.text a0)]) rfl) (fun w => enter50 _ w) (fun w hc => der_mayTime.val h59 (M:=M28) w (hE38.ext hc) )) ?_
       refine DL.pu 4 (.bool t58) rfl (p_assign rfl rfl) ?_
       refine DL.nil ?_
       obtain rfl:=Option.some.inj h60
       exact retnE (rs:=[.tmp 4]) (vs:=[.bool t58]) hE38.base Tryd.func33 rfl rfl rfl (res_cons (ResV.tmp rfl) res_nil) rfl
      ·
       replace c56:=Bool.eq_false_iff.mpr c56
       have h61:=ite_false c56 h55
       refine TT.cond_false (x:=sub [1,1,0,1,0,0,0,0,0,0,0,0,0,0,0,0,1,1,0,1,0] B33) (y:=sub [1,1,0,1,0,0,0,0,0,0,0,0,0,0,0,0,1,1,0,1,1] B33) rfl c56 ?_
       refine TT.skip ?_
       refine TT.seq (x:=sub [1,1,0,1,0,0,0,0,0,0,0,0,0,0,0,0,1,1,1,0] B33) (y:=sub [1,1,0,1,0,0,0,0,0,0,0,0,0,0,0,0,1,1,1,1] B33) ?_
       refine TT.seq (x:=sub [1,1,0,1,0,0,0,0,0,0,0,0,0,0,0,0,1,1,1,0,0] B33) (y:=sub [1,1,0,1,0,0,0,0,0,0,0,0,0,0,0,0,1,1,1,0,1] B33) ?_
       refine TT.rg [0,1] [kp,kp] rfl rfl ?_
       refine DL.pu 36 (.bool ((Der.kind a0) == 8)) rfl (p_eql rfl rfl rfl) ?_
       refine DL.pu 35 (.bool ((Der.kind a0) == 8)) rfl (p_assign rfl rfl) ?_
       refine DL.nil ?_
       by_cases c62 : ((Der.kind a0) == 8) = true
       ·
        have h63:=ite_true c62 h61
        refine TT.cond_true (x:=sub [1,1,0,1,0,0,0,0,0,0,0,0,0,0,0,0,1,1,1,0,1,0] B33) (y:=sub [1,1,0,1,0,0,0,0,0,0,0,0,0,0,0,0,1,1,1,0,1,1] B33) rfl c62 ?_
        refine TT.exit rfl ?_
        refine TT.seq (x:=sub [1,1,0,1,0,0,0,1,0] B33) (y:=sub [1,1,0,1,0,0,0,1,1] B33) ?_
        refine TT.rg [0,1,2,3,4,5,6,7] [kp,kq,kp,kp,kp,kq,kp,kp] rfl rfl ?_
        refine DL.pu 48 (ptr b1 2) rfl (p_fieldAddr ty_f27_2 rfl rfl) ?_
        refine DL.qu 49 (.int .i64 (Der.num a0)) rfl (f_load (j:=2) ty_a2 rfl rfl rfl rfl) ?_
        refine DL.pu 50 (.bool (decide ((Der.num a0) < 0))) rfl (p_lss rfl rfl rfl) ?_
        refine DL.mv 51 (.bool (decide ((Der.num a0) < 0))) rfl rfl rfl ?_
        obtain ⟨q65,h66,h67⟩:=bind_some h63
        refine DL.cut [(2,ptr b1 0),(3,ptr b2 0),(55,.bool q65)] [] ?_ (fun J68 => ?_)
        ·
         refine DL.nil ?_
         by_cases c72 : q65 = true
         ·
          have h73:=ite_true c72 h67
          refine TT.cond_true (x:=sub [1,1,0,1,0,0,0,1,1,0] B33) (y:=sub [1,1,0,1,0,0,0,1,1,1] B33) rfl c72 ?_
          refine TT.seq (x:=sub [1,1,0,1,0,0,0,1,1,0,0] B33) (y:=sub [1,1,0,1,0,0,0,1,1,0,1] B33) ?_
          refine TT.rg [0] [kp] rfl rfl ?_
          refine DL.pu 4 (.bool false) rfl (p_assign rfl rfl) ?_
          refine DL.nil ?_
          obtain rfl:=Option.some.inj h73
          exact retnE (rs:=[.tmp 4]) (vs:=[.bool false]) hE38.base Tryd.func33 rfl rfl rfl (res_cons (ResV.tmp rfl) res_nil) rfl
         ·
          replace c72:=Bool.eq_false_iff.mpr c72
          have h74:=ite_false c72 h67
          refine TT.cond_false (x:=sub [1,1,0,1,0,0,0,1,1,0] B33) (y:=sub [1,1,0,1,0,0,0,1,1,1] B33) rfl c72 ?_
          refine TT.skip ?_
          refine TT.inBlock ?_
          refine TT.seq (x:=sub [1,1,0,1,0,1,0] B33) (y:=sub [1,1,0,1,0,1,1] B33) ?_
          refine TT.seq (x:=sub [1,1,0,1,0,1,0,0] B33) (y:=sub [1,1,0,1,0,1,0,1] B33) ?_
          refine TT.rg [0,1,2,3] [kp,kq,kp,kp] rfl rfl ?_
          refine DL.pu 56 (ptr b1 6) rfl (p_fieldAddr ty_f27_6 rfl rfl) ?_
          refine DL.qu 57 (a0_6) rfl (f_load (j:=2) ty_a25 rfl rfl rfl rfl) ?_
          refine DL.pu 58 (.int .i64 ((Tree.kids a0).length : Int)) rfl (p_slLen ty_u25 (RowS.sl (RowS.mono hr_a0_6 hx28)) rfl rfl) ?_
          refine DL.pu 59 (.bool (((Tree.kids a0).length : Int) != 1)) rfl (p_neq rfl rfl rfl) ?_
          refine DL.nil ?_
          by_cases c75 : (((Tree.kids a0).length : Int) != 1) = true
          ·
           have h76:=ite_true c75 h74
           refine TT.cond_true (x:=sub [1,1,0,1,0,1,0,1,0] B33) (y:=sub [1,1,0,1,0,1,0,1,1] B33) rfl c75 ?_
           refine TT.seq (x:=sub [1,1,0,1,0,1,0,1,0,0] B33) (y:=sub [1,1,0,1,0,1,0,1,0,1] B33) ?_
           refine TT.rg [0] [kp] rfl rfl ?_
           refine DL.pu 4 (.bool false) rfl (p_assign rfl rfl) ?_
           refine DL.nil ?_
           obtain rfl:=Option.some.inj h76
           exact retnE (rs:=[.tmp 4]) (vs:=[.bool false]) hE38.base Tryd.func33 rfl rfl rfl (res_cons (ResV.tmp rfl) res_nil) rfl
          ·
           replace c75:=Bool.eq_false_iff.mpr c75
           have h77:=ite_false c75 h74
           refine TT.cond_false (x:=sub [1,1,0,1,0,1,0,1,0] B33) (y:=sub [1,1,0,1,0,1,0,1,1] B33) rfl c75 ?_
           refine TT.skip ?_
           refine TT.exit rfl ?_
           refine TT.seq (x:=sub [1,1,1,0] B33) (y:=sub [1,1,1,1] B33) ?_
           refine TT.rg [0,1,2,3,4,5] [kp,kq,kp,kq,kp,kp] rfl rfl ?_
           refine DL.pu 60 (ptr b1 6) rfl (p_fieldAddr ty_f27_6 rfl rfl) ?_
           refine DL.qu 61 (a0_6) rfl (f_load (j:=2) ty_a25 rfl rfl rfl rfl) ?_
           refine DL.pu 62 (.func (.func 52) #[] #[ptr b2 0]) rfl (p_makeFunc rfl (args_val (vs:=[ptr b2 0]) rfl)) ?_
           obtain ⟨t78,h79,h80⟩:=bind_some h77
           refine DL.qu 63 (.bool t78) rfl (f_callR rfl rfl (args_val (vs:=[a0_6,.func (.func 52) #[] #[ptr b2 0]]) rfl) (fun w => enter51 _ w) (fun w hc => containsFuncMay.val hr_der_may h79 (M:=heapOf w) w (Ext.refl _) (Glob.mono (Glob.mono hG hx28) (hE38.ext hc)) (RowS.mono (RowS.mono hr_a0_6 hx28) (hE38.ext hc)) (box_own hc (i:=1) rfl))) ?_
           refine DL.pu 64 (.bool (!t78)) rfl (p_not rfl rfl) ?_
           refine DL.pu 4 (.bool (!t78)) rfl (p_assign rfl rfl) ?_
           refine DL.nil ?_
           obtain rfl:=Option.some.inj h80
           exact retnE (rs:=[.tmp 4]) (vs:=[.bool (!t78)]) hE38.base Tryd.func33 rfl rfl rfl (res_cons (ResV.tmp rfl) res_nil) rfl
        ·
         by_cases c69 : (decide ((Der.num a0) < 0)) = true
         ·
          have h70:=ite_true c69 h66
          refine DL.not (i:=4) rfl (Wn.yes c69 rfl rfl rfl rfl) rfl rfl ?_
          refine DL.not (i:=5) rfl (Wn.yes c69 rfl rfl rfl rfl) rfl rfl ?_
          refine DL.not (i:=6) rfl (Wn.yes c69 rfl rfl rfl rfl) rfl rfl ?_
          refine DL.pu 55 (.bool true) rfl (p_pick_t c69 rfl rfl rfl) ?_
          obtain rfl:=Option.some.inj h70
          exact DL.weak J68 (Sub.cons rfl (Sub.cons rfl (Sub.cons rfl (Sub.nil _))))
         ·
          replace c69:=Bool.eq_false_iff.mpr c69
          have h71:=ite_false c69 h66
          refine DL.pure (v:=ptr b1 2) rfl (Wn.no c69 rfl rfl rfl rfl) rfl rfl rfl (p_fieldAddr ty_f27_2 rfl rfl) ?_
          refine DL.quiet (v:=.int .i64 (Der.num a0)) rfl (Wn.no c69 rfl rfl rfl rfl) rfl rfl rfl (f_load (j:=2) ty_a2 rfl rfl rfl rfl) ?_
          refine DL.pure (v:=.bool (decide (30 < (Der.num a0)))) rfl (Wn.no c69 rfl rfl rfl rfl) rfl rfl rfl (p_gtr rfl rfl rfl) ?_
          refine DL.pu 55 (.bool (decide (30 < (Der.num a0)))) rfl (p_pick_f c69 rfl rfl rfl) ?_
          obtain rfl:=Option.some.inj h71
          exact DL.weak J68 (Sub.cons rfl (Sub.cons rfl (Sub.cons rfl (Sub.nil _))))
       ·
        replace c62:=Bool.eq_false_iff.mpr c62
        have h81:=ite_false c62 h61
        refine TT.cond_false (x:=sub [1,1,0,1,0,0,0,0,0,0,0,0,0,0,0,0,1,1,1,0,1,0] B33) (y:=sub [1,1,0,1,0,0,0,0,0,0,0,0,0,0,0,0,1,1,1,0,1,1] B33) rfl c62 ?_
        refine TT.skip ?_
        refine TT.seq (x:=sub [1,1,0,1,0,0,0,0,0,0,0,0,0,0,0,0,1,1,1,1,0] B33) (y:=sub [1,1,0,1,0,0,0,0,0,0,0,0,0,0,0,0,1,1,1,1,1] B33) ?_
        refine TT.rg [0,1] [kp,kp] rfl rfl ?_
        refine DL.pu 38 (.bool ((Der.kind a0) == 9)) rfl (p_eql rfl rfl rfl) ?_
        refine DL.pu 37 (.bool ((Der.kind a0) == 9)) rfl (p_assign rfl rfl) ?_
        refine DL.nil ?_
        by_cases c82 : ((Der.kind a0) == 9) = true
        ·
         have h83:=ite_true c82 h81
         refine TT.cond_true (x:=sub [1,1,0,1,0,0,0,0,0,0,0,0,0,0,0,0,1,1,1,1,1,0] B33) (y:=sub [1,1,0,1,0,0,0,0,0,0,0,0,0,0,0,0,1,1,1,1,1,1] B33) rfl c82 ?_
         refine TT.exit rfl ?_
         refine TT.seq (x:=sub [1,1,0,1,0,1,0] B33) (y:=sub [1,1,0,1,0,1,1] B33) ?_
         refine TT.seq (x:=sub [1,1,0,1,0,1,0,0] B33) (y:=sub [1,1,0,1,0,1,0,1] B33) ?_
         refine TT.rg [0,1,2,3] [kp,kq,kp,kp] rfl rfl ?_
         refine DL.pu 56 (ptr b1 6) rfl (p_fieldAddr ty_f27_6 rfl rfl) ?_
         refine DL.qu 57 (a0_6) rfl (f_load (j:=2) ty_a25 rfl rfl rfl rfl) ?_
         refine DL.pu 58 (.int .i64 ((Tree.kids a0).length : Int)) rfl (p_slLen ty_u25 (RowS.sl (RowS.mono hr_a0_6 hx28)) rfl rfl) ?_
         refine DL.pu 59 (.bool (((Tree.kids a0).length : Int) != 1)) rfl (p_neq rfl rfl rfl) ?_
         refine DL.nil ?_
         by_cases c84 : (((Tree.kids a0).length : Int) != 1) = true
         ·
          have h85:=ite_true c84 h83
          refine TT.cond_true (x:=sub [1,1,0,1,0,1,0,1,0] B33) (y:=sub [1,1,0,1,0,1,0,1,1] B33) rfl c84 ?_
          refine TT.seq (x:=sub [1,1,0,1,0,1,0,1,0,0] B33) (y:=sub [1,1,0,1,0,1,0,1,0,1] B33) ?_
          refine TT.rg [0] [kp] rfl rfl ?_
          refine DL.pu 4 (.bool false) rfl (p_assign rfl rfl) ?_
          refine DL.nil ?_
          obtain rfl:=Option.some.inj h85
          exact retnE (rs:=[.tmp 4]) (vs:=[.bool false]) hE38.base Tryd.func33 rfl rfl rfl (res_cons (ResV.tmp rfl) res_nil) rfl
         ·
          replace c84:=Bool.eq_false_iff.mpr c84
          have h86:=ite_false c84 h83
          refine TT.cond_false (x:=sub [1,1,0,1,0,1,0,1,0] B33) (y:=sub [1,1,0,1,0,1,0,1,1] B33) rfl c84 ?_
          refine TT.skip ?_
          refine TT.exit rfl ?_
          refine TT.seq (x:=sub [1,1,1,0] B33) (y:=sub [1,1,1,1] B33) ?_
          refine TT.rg [0,1,2,3,4,5] [kp,kq,kp,kq,kp,kp] rfl rfl ?_
          refine DL.pu 60 (ptr b1 6) rfl (p_fieldAddr ty_f27_6 rfl rfl) ?_
          refine DL.qu 61 (a0_6) rfl (f_load (j:=2) ty_a25 rfl rfl rfl rfl) ?_
          refine DL.pu 62 (.func (.func 52) #[] #[ptr b2 0]) rfl (p_makeFunc rfl (args_val (vs:=[ptr b2 0]) rfl)) ?_
          obtain ⟨t87,h88,h89⟩:=bind_some h86
          refine DL.qu 63 (.bool t87) rfl (f_callR rfl rfl (args_val (vs:=[a0_6,.func (.func 52) #[] #[ptr b2 0]]) rfl) (fun w => enter51 _ w) (fun w hc => containsFuncMay.val hr_der_may h88 (M:=heapOf w) w (Ext.refl _) (Glob.mono (Glob.mono hG hx28) (hE38.ext hc)) (RowS.mono (RowS.mono hr_a0_6 hx28) (hE38.ext hc)) (box_own hc (i:=1) rfl))) ?_
          refine DL.pu 64 (.bool (!t87)) rfl (p_not rfl rfl) ?_
          refine DL.pu 4 (.bool (!t87)) rfl (p_assign rfl rfl) ?_
          refine DL.nil ?_
          obtain rfl:=Option.some.inj h89
          exact retnE (rs:=[.tmp 4]) (vs:=[.bool (!t87)]) hE38.base Tryd.func33 rfl rfl rfl (res_cons (ResV.tmp rfl) res_nil) rfl
        ·
         replace c82:=Bool.eq_false_iff.mpr c82
         have h90:=ite_false c82 h81
         refine TT.cond_false (x:=sub [1,1,0,1,0,0,0,0,0,0,0,0,0,0,0,0,1,1,1,1,1,0] B33) (y:=sub [1,1,0,1,0,0,0,0,0,0,0,0,0,0,0,0,1,1,1,1,1,1] B33) rfl c82 ?_
         refine TT.skip ?_
         refine TT.exit rfl ?_
         refine TT.seq (x:=sub [1,1,1,0] B33) (y:=sub [1,1,1,1] B33) ?_
         refine TT.rg [0,1,2,3,4,5] [kp,kq,kp,kq,kp,kp] rfl rfl ?_
         refine DL.pu 60 (ptr b1 6) rfl (p_fieldAddr ty_f27_6 rfl rfl) ?_
         refine DL.qu 61 (a0_6) rfl (f_load (j:=2) ty_a25 rfl rfl rfl rfl) ?_
         refine DL.pu 62 (.func (.func 52) #[] #[ptr b2 0]) rfl (p_makeFunc rfl (args_val (vs:=[ptr b2 0]) rfl)) ?_
         obtain ⟨t91,h92,h93⟩:=bind_some h90
         refine DL.qu 63 (.bool t91) rfl (f_callR rfl rfl (args_val (vs:=[a0_6,.func (.func 52) #[] #[ptr b2 0]]) rfl) (fun w => enter51 _ w) (fun w hc => containsFuncMay.val hr_der_may h92 (M:=heapOf w) w (Ext.refl _) (Glob.mono (Glob.mono hG hx28) (hE38.ext hc)) (RowS.mono (RowS.mono hr_a0_6 hx28) (hE38.ext hc)) (box_own hc (i:=1) rfl))) ?_
         refine DL.pu 64 (.bool (!t91)) rfl (p_not rfl rfl) ?_
         refine DL.pu 4 (.bool (!t91)) rfl (p_assign rfl rfl) ?_
         refine DL.nil ?_
         obtain rfl:=Option.some.inj h93
         exact retnE (rs:=[.tmp 4]) (vs:=[.bool (!t91)]) hE38.base Tryd.func33 rfl rfl rfl (res_cons (ResV.tmp rfl) res_nil) rfl
  ·
   by_cases c23 : q16 = true
   ·
    have h29:=ite_true c23 h25
    refine DL.not (i:=7) rfl (Wn.yes c23 rfl rfl rfl rfl) rfl rfl ?_
    refine DL.not (i:=8) rfl (Wn.yes c23 rfl rfl rfl rfl) rfl rfl ?_
    refine DL.not (i:=9) rfl (Wn.yes c23 rfl rfl rfl rfl) rfl rfl ?_
    refine DL.not (i:=10) rfl (Wn.yes c23 rfl rfl rfl rfl) rfl rfl ?_
    refine DL.not (i:=11) rfl (Wn.yes c23 rfl rfl rfl rfl) rfl rfl ?_
    refine DL.pu 26 (.bool true) rfl (p_pick_t c23 rfl rfl rfl) ?_
    obtain rfl:=Option.some.inj h29
    exact DL.weak (J27 _ _ hE.nil (Ext.refl _)) (Sub.cons rfl (Sub.cons rfl (Sub.cons rfl (Sub.nil _))))
   ·
    replace c23:=Bool.eq_false_iff.mpr c23
    have h30:=ite_false c23 h25
    refine DL.look (v:=.agg (Der.ce a0 a0_3 a0_5 a0_6)) (x:=2) (b:=b1) (i:=7) rfl (Wn.no c23 rfl rfl rfl rfl) rfl rfl rfl rfl rfl (List.mem_of_getElem? (i:=2) rfl) (b_loadA ty_a27 ty_s27 rfl rfl rfl) ?_
    refine DL.look (v:=.agg (Der.ce a0 a0_3 a0_5 a0_6)) (x:=2) (b:=b1) (i:=8) rfl (Wn.no c23 rfl rfl rfl rfl) rfl rfl rfl rfl rfl (List.mem_of_getElem? (i:=2) rfl) (b_loadA ty_a27 ty_s27 rfl rfl rfl) ?_
    obtain ⟨t31,h32,h33⟩:=bind_some h30
    refine DL.callF (G:=Value × Value × Value) (u:=fun g => .agg (Der.ce t31 (g.1) (g.2.1) (g.2.2))) (Q:=fun g M_ => (IntRow M_ .u8 (g.1) (Der.bytes t31)) ∧ (IntRow M_ .u64 (g.2.1) (Der.arcs t31)) ∧ (RowS ShDer M_ (g.2.2) (Tree.kids t31))) (A:=[(some b7,mobj .i64 [(1,.int .u8 1),(2,.int .u8 2),(3,.int .u8 3),(4,.int .u8 4),(5,.int .u8 6),(6,.int .u8 12),(10,.int .u8 24),(7,.int .u8 48),(9,.int .u8 49),(8,.int .u8 160)]),(some b2,.cells (#[.int .i64 a1]) 3 (0,0)),(some b1,.cells ((Der.ce a0 a0_3 a0_5 a0_6)) 27 (0,0))]) (J:=[]) (fun J34 => ((some b7,mobj .i64 [(1,.int .u8 1),(2,.int .u8 2),(3,.int .u8 3),(4,.int .u8 4),(5,.int .u8 6),(6,.int .u8 12),(10,.int .u8 24),(7,.int .u8 48),(9,.int .u8 49),(8,.int .u8 160)]) :: (some b2,.cells (#[.int .i64 a1]) 3 (0,0)) :: (some b1,.cells ((Der.ce a0 a0_3 a0_5 a0_6)) 27 (0,0)) :: J34)) hl14.2.2.2 hE.nil (List.append_nil _).symm (fun _ => rfl) (by simp) (i:=9) rfl (Wn.no c23 rfl rfl rfl rfl) rfl rfl rfl rfl rfl rfl (args_val (vs:=[.agg (Der.ce a0 a0_3 a0_5 a0_6)]) rfl) (fun w => enter47 _ w) (fun w hc hI => der_bare.ok h32 (M:=M) w hI hr_a0_3 hr_a0_5 hr_a0_6) ?_
    rintro ⟨t31_3,t31_5,t31_6⟩ M34 J34 hE34 hx34 ⟨hr_t31_3,hr_t31_5,hr_t31_6⟩
    show DL _ _ _ _ _ _ _ _ _ _ _ _ ((some b7,mobj .i64 [(1,.int .u8 1),(2,.int .u8 2),(3,.int .u8 3),(4,.int .u8 4),(5,.int .u8 6),(6,.int .u8 12),(10,.int .u8 24),(7,.int .u8 48),(9,.int .u8 49),(8,.int .u8 160)]) :: (some b2,.cells (#[.int .i64 a1]) 3 (0,0)) :: (some b1,.cells ((Der.ce a0 a0_3 a0_5 a0_6)) 27 (0,0)) :: J34)
    obtain ⟨t35,h36,h37⟩:=bind_some h33
    refine DL.quiet (v:=.bool t35) rfl (Wn.no c23 rfl rfl rfl rfl) rfl rfl rfl (f_callR rfl rfl (args_val (vs:=[.agg (Der.ce a0 a0_3 a0_5 a0_6),.agg (Der.ce t31 t31_3 t31_5 t31_6)]) rfl) (fun w => enter17 _ w) (fun w hc => der_Same.val h36 (M:=M34) w (hE34.extJ (A:=[(some b7,mobj .i64 [(1,.int .u8 1),(2,.int .u8 2),(3,.int .u8 3),(4,.int .u8 4),(5,.int .u8 6),(6,.int .u8 12),(10,.int .u8 24),(7,.int .u8 48),(9,.int .u8 49),(8,.int .u8 160)]),(some b2,.cells (#[.int .i64 a1]) 3 (0,0)),(some b1,.cells ((Der.ce a0 a0_3 a0_5 a0_6)) 27 (0,0))]) hc rfl) (IntRow.mono hr_a0_3 hx34) (IntRow.mono hr_a0_5 hx34) (RowS.mono hr_a0_6 hx34) hr_t31_3 hr_t31_5 hr_t31_6)) ?_
    refine DL.pure (v:=.bool (!t35)) rfl (Wn.no c23 rfl rfl rfl rfl) rfl rfl rfl (p_not rfl rfl) ?_
    refine DL.pu 26 (.bool (!t35)) rfl (p_pick_f c23 rfl rfl rfl) ?_
    obtain rfl:=Option.some.inj h37
    exact DL.weak (J27 _ _ hE34 hx34) (Sub.cons rfl (Sub.cons rfl (Sub.cons rfl (Sub.nil _))))
 ·
  by_cases c20 : (!t11) = true
  ·
   have h21:=ite_true c20 h17
   refine DL.not (i:=3) rfl (Wn.yes c20 rfl rfl rfl rfl) rfl rfl ?_
   refine DL.not (i:=4) rfl (Wn.yes c20 rfl rfl rfl rfl) rfl rfl ?_
   refine DL.pu 19 (.bool true) rfl (p_pick_t c20 rfl rfl rfl) ?_
   obtain rfl:=Option.some.inj h21
   exact DL.weak J19 (Sub.cons rfl (Sub.cons rfl (Sub.cons rfl (Sub.nil _))))
  ·
   replace c20:=Bool.eq_false_iff.mpr c20
   have h22:=ite_false c20 h17
   refine DL.look (v:=.int .i64 a1) (x:=1) (b:=b2) (i:=3) rfl (Wn.no c20 rfl rfl rfl rfl) rfl rfl rfl rfl rfl (List.mem_of_getElem? (i:=1) rfl) (b_load ty_a3 rfl rfl rfl) ?_
   refine DL.pure (v:=.bool (decide (a1 < 1))) rfl (Wn.no c20 rfl rfl rfl rfl) rfl rfl rfl (p_lss rfl rfl rfl) ?_
   refine DL.pu 19 (.bool (decide (a1 < 1))) rfl (p_pick_f c20 rfl rfl rfl) ?_
   obtain rfl:=Option.some.inj h22
   exact DL.weak J19 (Sub.cons rfl (Sub.cons rfl (Sub.cons rfl (Sub.nil _))))
theorem der_may.valF {r_der_may : Der → Int → Option (Bool)} (hr_der_may : der_may.Rec r_der_may) {a0 : Der} {a1 : Int} {a0_3 : Value} {a0_5 : Value} {a0_6 : Value} {r : Bool} (h : der_may.F r_der_may a0 a1 = some r) {M : Mem} (w : World) (hM : Ext M (heapOf w)) (hG : Glob M) (hr_a0_3 : IntRow M .u8 a0_3 (Der.bytes a0)) (hr_a0_5 : IntRow M .u64 a0_5 (Der.arcs a0)) (hr_a0_6 : RowS ShDer M a0_6 (Tree.kids a0)) : Calls Tryd.prog 33 #[.agg (Der.ce a0 a0_3 a0_5 a0_6),.int .i64 a1] w fun e w' => e = .returned (.bool r) ∧ Below w.heap.size w w' :=
 calls_value (der_may.okF hr_der_may h w hM hG hr_a0_3 hr_a0_5 hr_a0_6)
def der_may.f : Nat → Der → Int → Option (Bool)
 | 0,_,_ => none
 | k + 1,a0,a1 => der_may.F (der_may.f k) a0 a1
theorem der_may.rec : ∀ k,der_may.Rec (der_may.f k):=by
 intro k
 induction k with
 | zero => intro _ _ _ _ _ _ h; simp [der_may.f] at h
 | succ k ih => intro a0 a1 a0_3 a0_5 a0_6 r h M w hM hG hr_a0_3 hr_a0_5 hr_a0_6; exact der_may.valF ih h w hM hG hr_a0_3 hr_a0_5 hr_a0_6
theorem der_may.ok {k : Nat} {a0 : Der} {a1 : Int} {a0_3 : Value} {a0_5 : Value} {a0_6 : Value} {r : Bool} (h : der_may.f k a0 a1 = some r) {M : Mem} (w : World) (hM : Ext M (heapOf w)) (hG : Glob M) (hr_a0_3 : IntRow M .u8 a0_3 (Der.bytes a0)) (hr_a0_5 : IntRow M .u64 a0_5 (Der.arcs a0)) (hr_a0_6 : RowS ShDer M a0_6 (Tree.kids a0)) : Calls Tryd.prog 33 #[.agg (Der.ce a0 a0_3 a0_5 a0_6),.int .i64 a1] w (Post (fun u => u = .bool r) w) :=
 (der_may.rec k h w hM hG hr_a0_3 hr_a0_5 hr_a0_6).mono fun e w' ⟨he,hb⟩ => ⟨_,he,rfl,hb⟩
theorem der_may.val {k : Nat} {a0 : Der} {a1 : Int} {a0_3 : Value} {a0_5 : Value} {a0_6 : Value} {r : Bool} (h : der_may.f k a0 a1 = some r) {M : Mem} (w : World) (hM : Ext M (heapOf w)) (hG : Glob M) (hr_a0_3 : IntRow M .u8 a0_3 (Der.bytes a0)) (hr_a0_5 : IntRow M .u64 a0_5 (Der.arcs a0)) (hr_a0_6 : RowS ShDer M a0_6 (Tree.kids a0)) : Calls Tryd.prog 33 #[.agg (Der.ce a0 a0_3 a0_5 a0_6),.int .i64 a1] w fun e w' => e = .returned (.bool r) ∧ Below w.heap.size w w' :=
 der_may.rec k h w hM hG hr_a0_3 hr_a0_5 hr_a0_6

/-! ### escutcheon/der.May: function 14 -/
noncomputable def B14 : Code:=bodyOf Tryd.f14
def der_May.f (a0 : Der) : Option (Bool):=(der_may.f ((12 : Int).toNat + 1) a0 12).bind fun t2 => some t2
set_option maxRecDepth 20000 in
theorem der_May.ok {a0 : Der} {a0_3 : Value} {a0_5 : Value} {a0_6 : Value} {r : Bool} (h : der_May.f a0 = some r) {M : Mem} (w : World) (hM : Ext M (heapOf w)) (hG : Glob M) (hr_a0_3 : IntRow M .u8 a0_3 (Der.bytes a0)) (hr_a0_5 : IntRow M .u64 a0_5 (Der.arcs a0)) (hr_a0_6 : RowS ShDer M a0_6 (Tree.kids a0)) : Calls Tryd.prog 14 #[.agg (Der.ce a0 a0_3 a0_5 a0_6)] w (Post (fun u => u = .bool r) w):=by
 unfold der_May.f at h
 have hE:=Env.start hM
 refine calls_of_TT (N:=5) (S:=[(0,.agg (Der.ce a0 a0_3 a0_5 a0_6))]) (c:=B14) Tryd.func14 rfl rfl rfl (by simp) ?_
 show TT _ _ _ _ _ _ [.code (sub [] B14)] _ _
 refine TT.seq (x:=sub [0] B14) (y:=sub [1] B14) ?_
 refine TT.rg [0,1] [(.alloc,none),kp] rfl rfl ?_
 refine DL.new (ob:=.cells ((Der.ce a0 a0_3 a0_5 a0_6)) 27) (mk:=fun b => ptr b 0) (i:=0) rfl (Wn.none rfl) rfl rfl rfl (f_box (v:=.agg (Der.ce a0 a0_3 a0_5 a0_6)) rfl rfl) ?_
 intro b1 hb1
 refine DL.pu 2 (.bool false) rfl (p_assign rfl rfl) ?_
 refine DL.nil ?_
 refine TT.seq (x:=sub [1,0] B14) (y:=sub [1,1] B14) ?_
 refine TT.rg [0,1,2] [kq,kq,kp] rfl rfl ?_
 refine DL.qu 3 (.agg (Der.ce a0 a0_3 a0_5 a0_6)) rfl (f_loadA (j:=0) ty_a27 ty_s27 rfl rfl rfl rfl) ?_
 obtain ⟨t2,h3,h4⟩:=bind_some h
 refine DL.qu 4 (.bool t2) rfl (f_callR rfl rfl (args_val (vs:=[.agg (Der.ce a0 a0_3 a0_5 a0_6),.int .i64 12]) rfl) (fun w => enter33 _ w) (fun w hc => der_may.val h3 (M:=M) w (hE.ext hc) hG hr_a0_3 hr_a0_5 hr_a0_6)) ?_
 refine DL.pu 2 (.bool t2) rfl (p_assign rfl rfl) ?_
 refine DL.nil ?_
 obtain rfl:=Option.some.inj h4
 exact retnE (rs:=[.tmp 2]) (vs:=[.bool t2]) hE.base Tryd.func14 rfl rfl rfl (res_cons (ResV.tmp rfl) res_nil) rfl
theorem der_May.val {a0 : Der} {a0_3 : Value} {a0_5 : Value} {a0_6 : Value} {r : Bool} (h : der_May.f a0 = some r) {M : Mem} (w : World) (hM : Ext M (heapOf w)) (hG : Glob M) (hr_a0_3 : IntRow M .u8 a0_3 (Der.bytes a0)) (hr_a0_5 : IntRow M .u64 a0_5 (Der.arcs a0)) (hr_a0_6 : RowS ShDer M a0_6 (Tree.kids a0)) : Calls Tryd.prog 14 #[.agg (Der.ce a0 a0_3 a0_5 a0_6)] w fun e w' => e = .returned (.bool r) ∧ Below w.heap.size w w' :=
 calls_value (der_May.ok h w hM hG hr_a0_3 hr_a0_5 hr_a0_6)

/-! ### escutcheon/escutcheonlaw13.few: function 10 -/
noncomputable def B10 : Code:=bodyOf Tryd.f10
def law13_few.f (a0 : Der) : Option (Bool):=(ref13_Big.f (Der.fuel a0) a0 600).bind fun t2 => some (decide (0 ≤ t2))
set_option maxRecDepth 20000 in
theorem law13_few.ok {a0 : Der} {a0_3 : Value} {a0_5 : Value} {a0_6 : Value} {r : Bool} (h : law13_few.f a0 = some r) {M : Mem} (w : World) (hM : Ext M (heapOf w)) (hr_a0_3 : IntRow M .u8 a0_3 (Der.bytes a0)) (hr_a0_5 : IntRow M .u64 a0_5 (Der.arcs a0)) (hr_a0_6 : RowS ShDer M a0_6 (Tree.kids a0)) : Calls Tryd.prog 10 #[.agg (Der.ce a0 a0_3 a0_5 a0_6)] w (Post (fun u => u = .bool r) w):=by
 unfold law13_few.f at h
 have hE:=Env.start hM
 refine calls_of_TT (N:=6) (S:=[(0,.agg (Der.ce a0 a0_3 a0_5 a0_6))]) (c:=B10) Tryd.func10 rfl rfl rfl (by simp) ?_
 show TT _ _ _ _ _ _ [.code (sub [] B10)] _ _
 refine TT.seq (x:=sub [0] B10) (y:=sub [1] B10) ?_
 refine TT.rg [0,1] [(.alloc,none),kp] rfl rfl ?_
 refine DL.new (ob:=.cells ((Der.ce a0 a0_3 a0_5 a0_6)) 27) (mk:=fun b => ptr b 0) (i:=0) rfl (Wn.none rfl) rfl rfl rfl (f_box (v:=.agg (Der.ce a0 a0_3 a0_5 a0_6)) rfl rfl) ?_
 intro b1 hb1
 refine DL.pu 2 (.bool false) rfl (p_assign rfl rfl) ?_
 refine DL.nil ?_
 refine TT.seq (x:=sub [1,0] B10) (y:=sub [1,1] B10) ?_
 refine TT.rg [0,1,2,3] [kq,kq,kp,kp] rfl rfl ?_
 refine DL.qu 3 (.agg (Der.ce a0 a0_3 a0_5 a0_6)) rfl (f_loadA (j:=0) ty_a27 ty_s27 rfl rfl rfl rfl) ?_
 obtain ⟨t2,h3,h4⟩:=bind_some h
 refine DL.qu 4 (.int .i64 t2) rfl (f_callR rfl rfl (args_val (vs:=[.agg (Der.ce a0 a0_3 a0_5 a0_6),.int .i64 600]) rfl) (fun w => enter25 _ w) (fun w hc => ref13_Big.val h3 (M:=M) w (hE.ext hc) hr_a0_3 hr_a0_5 hr_a0_6)) ?_
 refine DL.pu 5 (.bool (decide (0 ≤ t2))) rfl (p_geq rfl rfl rfl) ?_
 refine DL.pu 2 (.bool (decide (0 ≤ t2))) rfl (p_assign rfl rfl) ?_
 refine DL.nil ?_
 obtain rfl:=Option.some.inj h4
 exact retnE (rs:=[.tmp 2]) (vs:=[.bool (decide (0 ≤ t2))]) hE.base Tryd.func10 rfl rfl rfl (res_cons (ResV.tmp rfl) res_nil) rfl
theorem law13_few.val {a0 : Der} {a0_3 : Value} {a0_5 : Value} {a0_6 : Value} {r : Bool} (h : law13_few.f a0 = some r) {M : Mem} (w : World) (hM : Ext M (heapOf w)) (hr_a0_3 : IntRow M .u8 a0_3 (Der.bytes a0)) (hr_a0_5 : IntRow M .u64 a0_5 (Der.arcs a0)) (hr_a0_6 : RowS ShDer M a0_6 (Tree.kids a0)) : Calls Tryd.prog 10 #[.agg (Der.ce a0 a0_3 a0_5 a0_6)] w fun e w' => e = .returned (.bool r) ∧ Below w.heap.size w w' :=
 calls_value (law13_few.ok h w hM hr_a0_3 hr_a0_5 hr_a0_6)

/-! ### escutcheon/der.groups: function 60 -/
noncomputable def B60 : Code:=bodyOf Tryd.f60
def der_groups.L0 : Nat → (List Int) → Int → Option ((List Int))
 | 0,_,_ => none
 | k + 1,y_3,x0_4 => if (decide (0 < (ishr .u64 x0_4 7))) = true then (nm (IntKind.u8.wrap (iand .u64 (ishr .u64 x0_4 7) 127)) fun t7 => req ([ior .u8 t7 128].length + y_3.length ≤ 1099511627776) (der_groups.L0 k ([ior .u8 t7 128] ++ y_3) (ishr .u64 x0_4 7))) else (some y_3)
set_option maxRecDepth 20000 in
theorem der_groups.L0_ok {w0 : World} {M0 M I : Mem} (hE : Env w0 M0 M I) :
  ∀ (k : Nat) (y_3 : List Int) (x0_4 : Int) (y_3_v : Value) (y_3_c : Array Value) (q : (List Int)) (ho_y_3 : IntOwn .u8 y_3_v y_3_c y_3) (h : der_groups.L0 k y_3 x0_4 = some q),
   TT Tryd.prog 60 (PostOwn id .u8 5 q w0) 20 w0 I (.code (sub [1,0,1,1] B60) :: .inScope (sub [1,0] B60) :: []) [(0,.int .u64 x0_4),(3,y_3_v)] [(Value.ownBlock y_3_v,.cells y_3_c 5 (0,0))]:=by
 intro k
 induction k with
 | zero => intro y_3 x0_4 y_3_v y_3_c q ho_y_3 h; simp [der_groups.L0] at h
 | succ k ih =>
  intro y_3 x0_4 y_3_v y_3_c q ho_y_3 h
  unfold der_groups.L0 at h
  obtain ⟨r,hq_⟩ : ∃ z,z = q:=⟨_,rfl⟩; subst hq_
  refine TT.seq (x:=sub [1,0,1,1,0] B60) (y:=sub [1,0,1,1,1] B60) ?_
  refine TT.seq (x:=sub [1,0,1,1,0,0] B60) (y:=sub [1,0,1,1,0,1] B60) ?_
  refine TT.rg [0,1,2] [kp,kp,kp] rfl rfl ?_
  refine DL.mv 8 (.int .u64 x0_4) rfl rfl rfl ?_
  refine DL.pu 9 (.int .u64 (ishr .u64 x0_4 7)) rfl (p_shr (by decide) rfl rfl rfl) ?_
  refine DL.pu 0 (.int .u64 (ishr .u64 x0_4 7)) rfl (p_assign rfl rfl) ?_
  refine DL.nil ?_
  refine TT.seq (x:=sub [1,0,1,1,0,1,0] B60) (y:=sub [1,0,1,1,0,1,1] B60) ?_
  refine TT.rg [0,1] [kp,kp] rfl rfl ?_
  refine DL.mv 10 (.int .u64 (ishr .u64 x0_4 7)) rfl rfl rfl ?_
  refine DL.pu 11 (.bool (decide (0 < (ishr .u64 x0_4 7)))) rfl (p_gtr rfl rfl rfl) ?_
  refine DL.nil ?_
  by_cases c5 : (decide (0 < (ishr .u64 x0_4 7))) = true
  ·
   have h6:=ite_true c5 h
   refine TT.cond_true (x:=sub [1,0,1,1,0,1,1,0] B60) (y:=sub [1,0,1,1,0,1,1,1] B60) rfl c5 ?_
   refine TT.seq (x:=sub [1,0,1,1,0,1,1,0,0] B60) (y:=sub [1,0,1,1,0,1,1,0,1] B60) ?_
   refine TT.rg [0,1,2,3,4,5,6,7] [kp,kp,kp,kp,(.alloc,none),kp,kx,kp] rfl rfl ?_
   refine DL.mv 12 (.int .u64 (ishr .u64 x0_4 7)) rfl rfl rfl ?_
   refine DL.pu 13 (.int .u64 (iand .u64 (ishr .u64 x0_4 7) 127)) rfl (p_and rfl rfl rfl) ?_
   obtain ⟨t7,e8,h9⟩:=nm_some h6
   refine DL.pu 14 (.int .u8 t7) rfl (by rw [e8]; exact p_conv ty_u50 ty_u5 ⟨_,rfl⟩ rfl rfl) ?_
   refine DL.pu 15 (.int .u8 (ior .u8 t7 128)) rfl (p_or rfl rfl rfl) ?_
   refine DL.newSl (zs:=[ior .u8 t7 128]) (n:=1) rfl (by decide) (i:=4) rfl (Wn.none rfl) rfl rfl rfl (f_buildSl (n:=1) (zs:=[ior .u8 t7 128]) (vs:=[(0,.int .u8 (ior .u8 t7 128))]) elem23 rfl rfl (by kernel_rfl) rfl (args_val2 rfl)) ?_
   intro s11_v s11_c ho_s11
   refine DL.mv 17 (y_3_v) rfl rfl rfl ?_
   obtain ⟨g12,h13⟩:=req_some h9
   refine DL.appendI (fun s14_v s14_c => [(Value.ownBlock s14_v,.cells s14_c 5 (0,0)),(Value.ownBlock y_3_v,.cells y_3_c 5 (0,0))]) elem23 (j:=0) rfl ho_s11 g12 (by decide) (fun w hc => IntOwn.src (i:=1) ho_y_3 hc rfl) (i:=6) rfl (Wn.none rfl) rfl rfl rfl rfl rfl rfl (fun _ _ => rfl) ?_
   intro s14_v s14_c ho_s14
   show DL _ _ _ _ _ _ _ _ _ _ _ _ [(Value.ownBlock s14_v,.cells s14_c 5 (0,0)),(Value.ownBlock y_3_v,.cells y_3_c 5 (0,0))]
   refine DL.pu 3 (s14_v) rfl (p_assign rfl rfl) ?_
   refine DL.nil ?_
   refine TT.goto rfl ?_
   refine TT.seq ?_
   refine TT.skip ?_
   exact TT.pick [0] (by decide) (TT.weak (ih ([ior .u8 t7 128] ++ y_3) (ishr .u64 x0_4 7) s14_v s14_c _ ho_s14 h13) (Sub.cons rfl (Sub.cons rfl (Sub.nil _))))
  ·
   replace c5:=Bool.eq_false_iff.mpr c5
   have h15:=ite_false c5 h
   refine TT.cond_false (x:=sub [1,0,1,1,0,1,1,0] B60) (y:=sub [1,0,1,1,0,1,1,1] B60) rfl c5 ?_
   refine TT.skip ?_
   refine TT.seq (x:=sub [1,0,1,1,1,0] B60) (y:=sub [1,0,1,1,1,1] B60) ?_
   refine TT.rg [0,1] [kp,kp] rfl rfl ?_
   refine DL.mv 19 (y_3_v) rfl rfl rfl ?_
   refine DL.pu 2 (y_3_v) rfl (p_assign rfl rfl) ?_
   refine DL.nil ?_
   obtain rfl:=Option.some.inj h15
   exact retOwnE (j:=0) hE.base Tryd.func60 rfl rfl rfl ho_y_3

def der_groups.f (a0 : Int) : Option ((List Int)):=der_groups.L0 11 [IntKind.u8.wrap (iand .u64 a0 127)] a0
set_option maxRecDepth 20000 in
theorem der_groups.ok {a0 : Int} {r : List Int} (h : der_groups.f a0 = some r) {M : Mem} (w : World) (hM : Ext M (heapOf w)) : Calls Tryd.prog 60 #[.int .u64 a0] w (PostOwn id .u8 5 r w):=by
 unfold der_groups.f at h
 have hE:=Env.start hM
 refine calls_of_TT (N:=20) (S:=[(0,.int .u64 a0)]) (c:=B60) Tryd.func60 rfl rfl rfl (by simp) ?_
 show TT _ _ _ _ _ _ [.code (sub [] B60)] _ _
 refine TT.seq (x:=sub [0] B60) (y:=sub [1] B60) ?_
 refine TT.rg [0] [kp] rfl rfl ?_
 refine DL.pu 2 (.slice none 0 0) rfl (p_assign rfl rfl) ?_
 refine DL.nil ?_
 refine TT.scope (c:=sub [1,0] B60) ?_
 refine TT.seq (x:=sub [1,0,0] B60) (y:=sub [1,0,1] B60) ?_
 refine TT.rg [0,1,2,3,4] [kp,kp,kp,(.alloc,none),kp] rfl rfl ?_
 refine DL.mv 4 (.int .u64 a0) rfl rfl rfl ?_
 refine DL.pu 5 (.int .u64 (iand .u64 a0 127)) rfl (p_and rfl rfl rfl) ?_
 refine DL.pu 6 (.int .u8 (IntKind.u8.wrap (iand .u64 a0 127))) rfl (p_conv ty_u50 ty_u5 ⟨_,rfl⟩ rfl rfl) ?_
 refine DL.newSl (zs:=[IntKind.u8.wrap (iand .u64 a0 127)]) (n:=1) rfl (by decide) (i:=3) rfl (Wn.none rfl) rfl rfl rfl (f_buildSl (n:=1) (zs:=[IntKind.u8.wrap (iand .u64 a0 127)]) (vs:=[(0,.int .u8 (IntKind.u8.wrap (iand .u64 a0 127)))]) elem23 rfl rfl (by kernel_rfl) rfl (args_val2 rfl)) ?_
 intro s2_v s2_c ho_s2
 refine DL.pu 3 (s2_v) rfl (p_assign rfl rfl) ?_
 refine DL.nil ?_
 refine TT.seq (x:=sub [1,0,1,0] B60) (y:=sub [1,0,1,1] B60) ?_
 refine TT.label ?_
 exact TT.weak (der_groups.L0_ok hE 11 [IntKind.u8.wrap (iand .u64 a0 127)] a0 s2_v s2_c _ ho_s2 h) (Sub.cons rfl (Sub.cons rfl (Sub.nil _)))

@[reducible] def der_pack.Rec (r_ : Der → Option ((List Int))) : Prop:=∀ {a0 : Der} {a0_3 : Value} {a0_5 : Value} {a0_6 : Value} {r : List Int},r_ a0 = some r → ∀ {M : Mem} (w : World) (hM : Ext M (heapOf w)) (hr_a0_3 : IntRow M .u8 a0_3 (Der.bytes a0)) (hr_a0_5 : IntRow M .u64 a0_5 (Der.arcs a0)) (hr_a0_6 : RowS ShDer M a0_6 (Tree.kids a0)),Calls Tryd.prog 31 #[.agg (Der.ce a0 a0_3 a0_5 a0_6)] w ((PostF (G:=Value) (fun g => g) (fun g M_ => (IntRow M_ .u8 g r)) M w))

/-! ### escutcheon/der.content: function 44 -/
noncomputable def B44 : Code:=bodyOf Tryd.f44
def der_content.L0 (a0 : Der) : Nat → (List Int) → Int → Option (List Int)
 | 0,_,_ => none
 | k + 1,y_58,x49_59 => nm (decide (x49_59 < (((Der.arcs a0).drop (2 : Int).toNat).length : Int))) fun t130 => if t130 = true then (req (0 ≤ x49_59) (req (x49_59 < (((Der.arcs a0).drop (2 : Int).toNat).length : Int)) ((der_groups.f (((Der.arcs a0).drop (2 : Int).toNat).getD x49_59.toNat 0)).bind fun t139 => req (t139.length ≤ 1099511627776) (req (y_58.length + t139.length ≤ 1099511627776) (der_content.L0 a0 k (y_58 ++ t139) (IntKind.i64.wrap (x49_59 + 1))))))) else (some y_58)
set_option maxRecDepth 20000 in
theorem der_content.L0_ok (a0 : Der) (a0_3 : Value) (a0_5 : Value) (a0_6 : Value) (b1 : Nat) (v55 : Value) {R : Ending → World → Prop} {w0 : World} {M0 M I : Mem} {K : List Item} (hE : Env w0 M0 M I) (hr_v55 : IntRow M .u64 v55 ((Der.arcs a0).drop (2 : Int).toNat)) :
  ∀ (k : Nat) (y_58 : List Int) (x49_59 : Int) (y_58_v : Value) (y_58_c : Array Value) (r0_ : List Int) (ho_y_58 : IntOwn .u8 y_58_v y_58_c y_58) (h : der_content.L0 a0 k y_58 x49_59 = some r0_) (hk : ∀ (z_o54_129_v : Value),∀ (z_o54_129_c : Array Value),IntOwn .u8 z_o54_129_v z_o54_129_c r0_ → TT Tryd.prog 44 R 78 w0 I K [(3,z_o54_129_v)] [(Value.ownBlock z_o54_129_v,.cells z_o54_129_c 5 (0,0)),(some b1,.cells ((Der.ce a0 a0_3 a0_5 a0_6)) 27 (0,0))]),
   TT Tryd.prog 44 R 78 w0 I (.code (sub [1,0,1,0,1,1,1,1,1,1,1,1,1,0,1,0,1,0,0] B44) :: .inLoop (sub [1,0,1,0,1,1,1,1,1,1,1,1,1,0,1,0,1,0,0] B44) :: .inBlock 1 :: K) [(3,y_58_v),(47,v55),(48,.int .i64 (((Der.arcs a0).drop (2 : Int).toNat).length : Int)),(49,.int .i64 x49_59)] [(Value.ownBlock y_58_v,.cells y_58_c 5 (0,0)),(some b1,.cells ((Der.ce a0 a0_3 a0_5 a0_6)) 27 (0,0))]:=by
 intro k
 induction k with
 | zero => intro y_58 x49_59 y_58_v y_58_c r0_ ho_y_58 h; simp [der_content.L0] at h
 | succ k ih =>
  intro y_58 x49_59 y_58_v y_58_c r0_ ho_y_58 h hk
  unfold der_content.L0 at h
  refine TT.seq (x:=sub [1,0,1,0,1,1,1,1,1,1,1,1,1,0,1,0,1,0,0,0] B44) (y:=sub [1,0,1,0,1,1,1,1,1,1,1,1,1,0,1,0,1,0,0,1] B44) ?_
  refine TT.rg [0] [kp] rfl rfl ?_
  obtain ⟨t130,e131,h132⟩:=nm_some h
  refine DL.pu 50 (.bool t130) rfl (by rw [e131]; exact p_lss rfl rfl rfl) ?_
  refine DL.nil ?_
  refine TT.seq (x:=sub [1,0,1,0,1,1,1,1,1,1,1,1,1,0,1,0,1,0,0,1,0] B44) (y:=sub [1,0,1,0,1,1,1,1,1,1,1,1,1,0,1,0,1,0,0,1,1] B44) ?_
  by_cases c133 : t130 = true
  ·
   have h134:=ite_true c133 h132
   refine TT.cond_true (x:=sub [1,0,1,0,1,1,1,1,1,1,1,1,1,0,1,0,1,0,0,1,0,0] B44) (y:=sub [1,0,1,0,1,1,1,1,1,1,1,1,1,0,1,0,1,0,0,1,0,1] B44) rfl c133 ?_
   refine TT.skip ?_
   refine TT.seq (x:=sub [1,0,1,0,1,1,1,1,1,1,1,1,1,0,1,0,1,0,0,1,1,0] B44) (y:=sub [1,0,1,0,1,1,1,1,1,1,1,1,1,0,1,0,1,0,0,1,1,1] B44) ?_
   refine TT.block (c:=sub [1,0,1,0,1,1,1,1,1,1,1,1,1,0,1,0,1,0,0,1,1,0,0] B44) ?_
   refine TT.seq (x:=sub [1,0,1,0,1,1,1,1,1,1,1,1,1,0,1,0,1,0,0,1,1,0,0,0] B44) (y:=sub [1,0,1,0,1,1,1,1,1,1,1,1,1,0,1,0,1,0,0,1,1,0,0,1] B44) ?_
   refine TT.rg [0,1,2] [kp,kp,kp] rfl rfl ?_
   obtain ⟨g135,h136⟩:=req_some h134
   obtain ⟨g137,h138⟩:=req_some h136
   refine DL.pu 51 (elp v55 x49_59.toNat) rfl (p_slIx1 ty_u24 ty_s50 (RowV.some hr_v55 g135 g137) g135 g137 rfl rfl rfl) ?_
   refine DL.imm (v:=.int .u64 (((Der.arcs a0).drop (2 : Int).toNat).getD x49_59.toNat 0)) rfl (Wn.none rfl) rfl rfl rfl (i_loadEl (RowV.mono hr_v55 hE.mi) (encl_get .u64 (lt_len g135 g137)) ty_a50 rfl rfl) ?_
   refine DL.pu 5 (.int .u64 (((Der.arcs a0).drop (2 : Int).toNat).getD x49_59.toNat 0)) rfl (p_assign rfl rfl) ?_
   refine DL.nil ?_
   refine TT.rg [0,1,2,3,4] [kp,kp,kx,kx,kp] rfl rfl ?_
   refine DL.mv 53 (y_58_v) rfl rfl rfl ?_
   refine DL.mv 54 (.int .u64 (((Der.arcs a0).drop (2 : Int).toNat).getD x49_59.toNat 0)) rfl rfl rfl ?_
   obtain ⟨t139,h140,h141⟩:=bind_some h138
   obtain ⟨g142,h143⟩:=req_some h141
   refine DL.ownx (zs:=t139) (H':=fun t139_v t139_c => [(Value.ownBlock t139_v,.cells t139_c 5 (0,0)),(Value.ownBlock y_58_v,.cells y_58_c 5 (0,0)),(some b1,.cells ((Der.ce a0 a0_3 a0_5 a0_6)) 27 (0,0))]) (i:=2) rfl (Wn.none rfl) rfl rfl rfl (f_callOwn rfl rfl (args_val (vs:=[.int .u64 (((Der.arcs a0).drop (2 : Int).toNat).getD x49_59.toNat 0)]) rfl) (fun w => enter60 _ w) (fun w hc => der_groups.ok h140 (M:=M) w (hE.ext hc) )) (fun _ => rfl) ?_
   intro t139_v t139_c ho_t139
   show DL _ _ _ _ _ _ _ _ _ _ _ _ [(Value.ownBlock t139_v,.cells t139_c 5 (0,0)),(Value.ownBlock y_58_v,.cells y_58_c 5 (0,0)),(some b1,.cells ((Der.ce a0 a0_3 a0_5 a0_6)) 27 (0,0))]
   obtain ⟨g145,h146⟩:=req_some h143
   refine DL.appendI (fun s147_v s147_c => [(Value.ownBlock t139_v,.cells t139_c 5 (0,0)),(Value.ownBlock s147_v,.cells s147_c 5 (0,0)),(some b1,.cells ((Der.ce a0 a0_3 a0_5 a0_6)) 27 (0,0))]) elem23 (j:=1) rfl ho_y_58 g145 (by decide) (fun w hc => IntOwn.src (i:=0) ho_t139 hc rfl) (i:=3) rfl (Wn.none rfl) rfl rfl rfl rfl rfl rfl (fun _ _ => rfl) ?_
   intro s147_v s147_c ho_s147
   show DL _ _ _ _ _ _ _ _ _ _ _ _ [(Value.ownBlock t139_v,.cells t139_c 5 (0,0)),(Value.ownBlock s147_v,.cells s147_c 5 (0,0)),(some b1,.cells ((Der.ce a0 a0_3 a0_5 a0_6)) 27 (0,0))]
   refine DL.pu 3 (s147_v) rfl (p_assign rfl rfl) ?_
   refine DL.nil ?_
   refine TT.inBlock ?_
   refine TT.rg [0,1] [kp,kp] rfl rfl ?_
   refine DL.pu 57 (.int .i64 (IntKind.i64.wrap (x49_59 + 1))) rfl (p_add rfl rfl rfl) ?_
   refine DL.mv 49 (.int .i64 (IntKind.i64.wrap (x49_59 + 1))) rfl rfl rfl ?_
   refine DL.nil ?_
   refine TT.inLoop ?_
   exact TT.pick [1,2] (by decide) (TT.weak (ih (y_58 ++ t139) (IntKind.i64.wrap (x49_59 + 1)) s147_v s147_c r0_ ho_s147 h146 hk) (Sub.cons rfl (Sub.cons rfl (Sub.cons rfl (Sub.cons rfl (Sub.nil _))))))
  ·
   replace c133:=Bool.eq_false_iff.mpr c133
   have h148:=ite_false c133 h132
   refine TT.cond_false (x:=sub [1,0,1,0,1,1,1,1,1,1,1,1,1,0,1,0,1,0,0,1,0,0] B44) (y:=sub [1,0,1,0,1,1,1,1,1,1,1,1,1,0,1,0,1,0,0,1,0,1] B44) rfl c133 ?_
   refine TT.exit rfl ?_
   obtain rfl:=Option.some.inj h148
   exact TT.weak (hk y_58_v y_58_c ho_y_58) (Sub.cons rfl (Sub.nil _))

def der_content.L1 (r_der_pack : Der → Option ((List Int))) (a0 : Der) : Nat → (List Int) → Int → Option (List Int)
 | 0,_,_ => none
 | k + 1,y_168,x68_169 => nm (decide (x68_169 < ((Tree.kids a0).length : Int))) fun t241 => if t241 = true then (req (0 ≤ x68_169) (req (x68_169 < ((Tree.kids a0).length : Int)) (nm ((Tree.kids a0).getD x68_169.toNat Der.dflt) fun t251 => (r_der_pack t251).bind fun t255 => req (y_168.length + t255.length ≤ 1099511627776) (der_content.L1 r_der_pack a0 k (y_168 ++ t255) (IntKind.i64.wrap (x68_169 + 1)))))) else (some y_168)
set_option maxRecDepth 20000 in
theorem der_content.L1_ok {r_der_pack : Der → Option ((List Int))} (hr_der_pack : der_pack.Rec r_der_pack) (a0 : Der) (a0_3 : Value) (a0_5 : Value) (a0_6 : Value) (b1 : Nat) {R : Ending → World → Prop} {w0 : World} {M0 Mb : Mem} {K : List Item} (hr_a0_6 : RowS ShDer Mb a0_6 (Tree.kids a0)) :
  ∀ (k : Nat) (M I : Mem) (hE : Env w0 M0 M I) (hx : Ext Mb M) (y_168 : List Int) (x68_169 : Int) (y_168_v : Value) (y_168_c : Array Value) (r0_ : List Int) (ho_y_168 : IntOwn .u8 y_168_v y_168_c y_168) (h : der_content.L1 r_der_pack a0 k y_168 x68_169 = some r0_) (hk : ∀ (M' I' : Mem),Env w0 M0 M' I' → Ext Mb M' → ∀ (z_o167_240_v : Value),∀ (z_o167_240_c : Array Value),IntOwn .u8 z_o167_240_v z_o167_240_c r0_ → TT Tryd.prog 44 R 78 w0 I' K [(6,z_o167_240_v)] [(Value.ownBlock z_o167_240_v,.cells z_o167_240_c 5 (0,0)),(some b1,.cells ((Der.ce a0 a0_3 a0_5 a0_6)) 27 (0,0))]),
   TT Tryd.prog 44 R 78 w0 I (.code (sub [1,1,1,0,1,0,0] B44) :: .inLoop (sub [1,1,1,0,1,0,0] B44) :: .inBlock 3 :: K) [(6,y_168_v),(66,a0_6),(67,.int .i64 ((Tree.kids a0).length : Int)),(68,.int .i64 x68_169)] [(Value.ownBlock y_168_v,.cells y_168_c 5 (0,0)),(some b1,.cells ((Der.ce a0 a0_3 a0_5 a0_6)) 27 (0,0))]:=by
 intro k
 induction k with
 | zero => intro M I hE hx y_168 x68_169 y_168_v y_168_c r0_ ho_y_168 h; simp [der_content.L1] at h
 | succ k ih =>
  intro M I hE hx y_168 x68_169 y_168_v y_168_c r0_ ho_y_168 h hk
  unfold der_content.L1 at h
  refine TT.seq (x:=sub [1,1,1,0,1,0,0,0] B44) (y:=sub [1,1,1,0,1,0,0,1] B44) ?_
  refine TT.rg [0] [kp] rfl rfl ?_
  obtain ⟨t241,e242,h243⟩:=nm_some h
  refine DL.pu 69 (.bool t241) rfl (by rw [e242]; exact p_lss rfl rfl rfl) ?_
  refine DL.nil ?_
  refine TT.seq (x:=sub [1,1,1,0,1,0,0,1,0] B44) (y:=sub [1,1,1,0,1,0,0,1,1] B44) ?_
  by_cases c244 : t241 = true
  ·
   have h245:=ite_true c244 h243
   refine TT.cond_true (x:=sub [1,1,1,0,1,0,0,1,0,0] B44) (y:=sub [1,1,1,0,1,0,0,1,0,1] B44) rfl c244 ?_
   refine TT.skip ?_
   refine TT.seq (x:=sub [1,1,1,0,1,0,0,1,1,0] B44) (y:=sub [1,1,1,0,1,0,0,1,1,1] B44) ?_
   refine TT.block (c:=sub [1,1,1,0,1,0,0,1,1,0,0] B44) ?_
   refine TT.seq (x:=sub [1,1,1,0,1,0,0,1,1,0,0,0] B44) (y:=sub [1,1,1,0,1,0,0,1,1,0,0,1] B44) ?_
   refine TT.rg [0,1,2,3] [kp,kp,(.alloc,none),(.store,none)] rfl rfl ?_
   obtain ⟨g246,h247⟩:=req_some h245
   obtain ⟨g248,h249⟩:=req_some h247
   refine DL.pu 70 (elp a0_6 (x68_169.toNat * 7)) rfl (p_slIx ty_u25 ty_s27 (RowS.some (RowS.mono hr_a0_6 hx) g246 g248) g246 g248 rfl rfl rfl) ?_
   obtain ⟨t251,e252,h253⟩:=nm_some h249
   obtain ⟨cs250,hc250,hl250⟩:=id ((RowS.mono hr_a0_6 hx))
   have q250:=hl250 _ _ (getD_some Der.dflt (lt_len g246 g248)); rw [← e252] at q250
   obtain ⟨t251_3,t251_5,t251_6,hq250,hr_t251_3,hr_t251_5,hr_t251_6⟩:=Der.op q250
   refine DL.imm (v:=.agg (Der.ce t251 t251_3 t251_5 t251_6)) rfl (Wn.none rfl) rfl rfl rfl (i_loadElA (RowV.mono hc250 hE.mi) hq250 (lt_len g246 g248) ty_a27 ty_s27 rfl rfl) ?_
   refine DL.new (ob:=.cells (#[.int .i64 0,.bool false,.int .i64 0,(.slice none 0 0),str ([] : List UInt8),(.slice none 0 0),(.slice none 0 0)]) 27) (mk:=fun b => ptr b 0) (i:=2) rfl (Wn.none rfl) rfl rfl rfl (f_alloc ty_z27 rfl) ?_
   intro b254 hb254
   refine DL.put (H':=[(some b254,.cells ((Der.ce t251 t251_3 t251_5 t251_6)) 27 (0,0)),(Value.ownBlock y_168_v,.cells y_168_c 5 (0,0)),(some b1,.cells ((Der.ce a0 a0_3 a0_5 a0_6)) 27 (0,0))]) (i:=3) rfl (Wn.none rfl) rfl rfl (f_storeA (j:=0) ty_s27 rfl rfl rfl (one_cons trivial (one_cons trivial (one_cons trivial (one_cons (sl_one (RowV.sl hr_t251_3)) (one_cons trivial (one_cons (sl_one (RowV.sl hr_t251_5)) (one_cons (sl_one (RowS.sl hr_t251_6)) one_nil))))))) rfl rfl rfl) (keep_none rfl) ?_
   refine DL.nil ?_
   refine TT.rg [0,1,2,3,4] [kp,kq,kk,kx,kp] rfl rfl ?_
   refine DL.mv 72 (y_168_v) rfl rfl rfl ?_
   refine DL.qu 73 (.agg (Der.ce t251 t251_3 t251_5 t251_6)) rfl (f_loadA (j:=0) ty_a27 ty_s27 rfl rfl rfl rfl) ?_
   obtain ⟨t255,h256,h257⟩:=bind_some h253
   refine DL.callF (G:=Value) (u:=fun g => g) (Q:=fun g M_ => (IntRow M_ .u8 g t255)) (A:=[(some b254,.cells ((Der.ce t251 t251_3 t251_5 t251_6)) 27 (0,0)),(Value.ownBlock y_168_v,.cells y_168_c 5 (0,0)),(some b1,.cells ((Der.ce a0 a0_3 a0_5 a0_6)) 27 (0,0))]) (J:=[]) (fun J258 => ((some b254,.cells ((Der.ce t251 t251_3 t251_5 t251_6)) 27 (0,0)) :: (Value.ownBlock y_168_v,.cells y_168_c 5 (0,0)) :: (some b1,.cells ((Der.ce a0 a0_3 a0_5 a0_6)) 27 (0,0)) :: J258)) (Nat.le_refl _) hE.nil (List.append_nil _).symm (fun _ => rfl) (by simp) (i:=2) rfl (Wn.none rfl) rfl rfl rfl rfl rfl rfl (args_val (vs:=[.agg (Der.ce t251 t251_3 t251_5 t251_6)]) rfl) (fun w => enter31 _ w) (fun w hc hI => hr_der_pack h256 (M:=M) w hI hr_t251_3 hr_t251_5 hr_t251_6) ?_
   rintro t255_v M258 J258 hE258 hx258 hr_t255
   show DL _ _ _ _ _ _ _ _ _ _ _ _ ((some b254,.cells ((Der.ce t251 t251_3 t251_5 t251_6)) 27 (0,0)) :: (Value.ownBlock y_168_v,.cells y_168_c 5 (0,0)) :: (some b1,.cells ((Der.ce a0 a0_3 a0_5 a0_6)) 27 (0,0)) :: J258)
   obtain ⟨g259,h260⟩:=req_some h257
   refine DL.appendI (fun s261_v s261_c => ((some b254,.cells ((Der.ce t251 t251_3 t251_5 t251_6)) 27 (0,0)) :: (Value.ownBlock s261_v,.cells s261_c 5 (0,0)) :: (some b1,.cells ((Der.ce a0 a0_3 a0_5 a0_6)) 27 (0,0)) :: J258)) elem23 (j:=1) rfl ho_y_168 g259 (by decide) (fun w hc => RowV.src (RowV.mono hr_t255 (hE258.extJ (A:=[(some b254,.cells ((Der.ce t251 t251_3 t251_5 t251_6)) 27 (0,0)),(Value.ownBlock y_168_v,.cells y_168_c 5 (0,0)),(some b1,.cells ((Der.ce a0 a0_3 a0_5 a0_6)) 27 (0,0))]) hc rfl)) (encl_one _ _)) (i:=3) rfl (Wn.none rfl) rfl rfl rfl rfl rfl rfl (fun _ _ => rfl) ?_
   intro s261_v s261_c ho_s261
   show DL _ _ _ _ _ _ _ _ _ _ _ _ ((some b254,.cells ((Der.ce t251 t251_3 t251_5 t251_6)) 27 (0,0)) :: (Value.ownBlock s261_v,.cells s261_c 5 (0,0)) :: (some b1,.cells ((Der.ce a0 a0_3 a0_5 a0_6)) 27 (0,0)) :: J258)
   refine DL.pu 6 (s261_v) rfl (p_assign rfl rfl) ?_
   refine DL.nil ?_
   refine TT.settle (A:=[(some b254,.cells ((Der.ce t251 t251_3 t251_5 t251_6)) 27 (0,0)),(Value.ownBlock s261_v,.cells s261_c 5 (0,0)),(some b1,.cells ((Der.ce a0 a0_3 a0_5 a0_6)) 27 (0,0))]) (J:=J258) hE258 ?_
   intro I262 hE262 hxI262
   refine TT.inBlock ?_
   refine TT.rg [0,1] [kp,kp] rfl rfl ?_
   refine DL.pu 76 (.int .i64 (IntKind.i64.wrap (x68_169 + 1))) rfl (p_add rfl rfl rfl) ?_
   refine DL.mv 68 (.int .i64 (IntKind.i64.wrap (x68_169 + 1))) rfl rfl rfl ?_
   refine DL.nil ?_
   refine TT.inLoop ?_
   exact TT.pick [1,2] (by decide) (TT.weak (ih M258 I262 hE262 (hx.trans hx258) (y_168 ++ t255) (IntKind.i64.wrap (x68_169 + 1)) s261_v s261_c r0_ ho_s261 h260 hk) (Sub.cons rfl (Sub.cons rfl (Sub.cons rfl (Sub.cons rfl (Sub.nil _))))))
  ·
   replace c244:=Bool.eq_false_iff.mpr c244
   have h263:=ite_false c244 h243
   refine TT.cond_false (x:=sub [1,1,1,0,1,0,0,1,0,0] B44) (y:=sub [1,1,1,0,1,0,0,1,0,1] B44) rfl c244 ?_
   refine TT.exit rfl ?_
   obtain rfl:=Option.some.inj h263
   exact TT.weak (hk M I hE hx y_168_v y_168_c ho_y_168) (Sub.cons rfl (Sub.nil _))

def der_content.f (r_der_pack : Der → Option ((List Int))) (a0 : Der) : Option ((List Int)):=if ((Der.kind a0) == 1) = true then (if (Der.flag a0) = true then (some [255]) else (some [0])) else (if ((Der.kind a0) == 2) = true then ((der_whole.f (Der.num a0)).bind fun t16 => req (t16.length ≤ 1099511627776) (some t16)) else (if ((Der.kind a0) == 3) = true then (req ([0].length + (Der.bytes a0).length ≤ 1099511627776) (some ([0] ++ (Der.bytes a0)))) else (if ((Der.kind a0) == 4) = true then (some (Der.bytes a0)) else (if ((Der.kind a0) == 5) = true then (req ((0 : Int) < ((Der.arcs a0).length : Int)) (nm (IntKind.u64.wrap (40 * ((Der.arcs a0).getD ((0 : Int).toNat) 0))) fun t41 => req ((1 : Int) < ((Der.arcs a0).length : Int)) (nm (IntKind.u64.wrap (t41 + ((Der.arcs a0).getD ((1 : Int).toNat) 0))) fun t46 => (der_groups.f t46).bind fun t49 => req (t49.length ≤ 1099511627776) (req ((2 : Int) ≤ ((Der.arcs a0).length : Int)) ((der_content.L0 a0 ((((Der.arcs a0).drop (2 : Int).toNat).length : Int).toNat + 1) t49 0).bind fun z_o54_129 => some z_o54_129))))) else ((if ((Der.kind a0) == 6) = true then (some ((Der.kind a0) == 6)) else (some ((Der.kind a0) == 10))).bind fun j59_155 => if j59_155 = true then (some (numsL (Der.text a0))) else ((der_content.L1 r_der_pack a0 (((Tree.kids a0).length : Int).toNat + 1) ([] : List Int) 0).bind fun z_o167_240 => some z_o167_240))))))
set_option maxRecDepth 20000 in
theorem der_content.ok {r_der_pack : Der → Option ((List Int))} (hr_der_pack : der_pack.Rec r_der_pack) {a0 : Der} {a0_3 : Value} {a0_5 : Value} {a0_6 : Value} {r : List Int} (h : der_content.f r_der_pack a0 = some r) {M : Mem} (w : World) (hM : Ext M (heapOf w)) (hr_a0_3 : IntRow M .u8 a0_3 (Der.bytes a0)) (hr_a0_5 : IntRow M .u64 a0_5 (Der.arcs a0)) (hr_a0_6 : RowS ShDer M a0_6 (Tree.kids a0)) : Calls Tryd.prog 44 #[.agg (Der.ce a0 a0_3 a0_5 a0_6)] w (PostF (G:=Value) (fun g => g) (fun g M_ => (IntRow M_ .u8 g r)) M w):=by
 unfold der_content.f at h
 have hE:=Env.start hM
 refine calls_of_TT (N:=78) (S:=[(0,.agg (Der.ce a0 a0_3 a0_5 a0_6))]) (c:=B44) Tryd.func44 rfl rfl rfl (by simp) ?_
 show TT _ _ _ _ _ _ [.code (sub [] B44)] _ _
 refine TT.seq (x:=sub [0] B44) (y:=sub [1] B44) ?_
 refine TT.rg [0,1] [(.alloc,none),kp] rfl rfl ?_
 refine DL.new (ob:=.cells ((Der.ce a0 a0_3 a0_5 a0_6)) 27) (mk:=fun b => ptr b 0) (i:=0) rfl (Wn.none rfl) rfl rfl rfl (f_box (v:=.agg (Der.ce a0 a0_3 a0_5 a0_6)) rfl rfl) ?_
 intro b1 hb1
 refine DL.pu 2 (.slice none 0 0) rfl (p_assign rfl rfl) ?_
 refine DL.nil ?_
 refine TT.seq (x:=sub [1,0] B44) (y:=sub [1,1] B44) ?_
 refine TT.seq (x:=sub [1,0,0] B44) (y:=sub [1,0,1] B44) ?_
 refine TT.rg [0,1] [kp,kq] rfl rfl ?_
 refine DL.pu 9 (ptr b1 0) rfl (p_fieldAddr ty_f27_0 rfl rfl) ?_
 refine DL.qu 10 (.int .i64 (Der.kind a0)) rfl (f_load (j:=0) ty_a22 rfl rfl rfl rfl) ?_
 refine DL.nil ?_
 refine TT.block (c:=sub [1,0,1,0] B44) ?_
 refine TT.seq (x:=sub [1,0,1,0,0] B44) (y:=sub [1,0,1,0,1] B44) ?_
 refine TT.rg [0,1] [kp,kp] rfl rfl ?_
 refine DL.pu 12 (.bool ((Der.kind a0) == 1)) rfl (p_eql rfl rfl rfl) ?_
 refine DL.pu 11 (.bool ((Der.kind a0) == 1)) rfl (p_assign rfl rfl) ?_
 refine DL.nil ?_
 by_cases c2 : ((Der.kind a0) == 1) = true
 ·
  have h3:=ite_true c2 h
  refine TT.cond_true (x:=sub [1,0,1,0,1,0] B44) (y:=sub [1,0,1,0,1,1] B44) rfl c2 ?_
  refine TT.seq (x:=sub [1,0,1,0,1,0,0] B44) (y:=sub [1,0,1,0,1,0,1] B44) ?_
  refine TT.seq (x:=sub [1,0,1,0,1,0,0,0] B44) (y:=sub [1,0,1,0,1,0,0,1] B44) ?_
  refine TT.rg [0,1] [kp,kq] rfl rfl ?_
  refine DL.pu 13 (ptr b1 1) rfl (p_fieldAddr ty_f27_1 rfl rfl) ?_
  refine DL.qu 14 (.bool (Der.flag a0)) rfl (f_load (j:=0) ty_a4 rfl rfl rfl rfl) ?_
  refine DL.nil ?_
  by_cases c4 : (Der.flag a0) = true
  ·
   have h5:=ite_true c4 h3
   refine TT.cond_true (x:=sub [1,0,1,0,1,0,0,1,0] B44) (y:=sub [1,0,1,0,1,0,0,1,1] B44) rfl c4 ?_
   refine TT.seq (x:=sub [1,0,1,0,1,0,0,1,0,0] B44) (y:=sub [1,0,1,0,1,0,0,1,0,1] B44) ?_
   refine TT.rg [0,1] [(.alloc,none),kp] rfl rfl ?_
   refine DL.newSl (zs:=[255]) (n:=1) rfl (by decide) (i:=0) rfl (Wn.none rfl) rfl rfl rfl (f_buildSl (n:=1) (zs:=[255]) (vs:=[(0,.int .u8 255)]) elem23 rfl rfl (by kernel_rfl) rfl (args_val2 rfl)) ?_
   intro s7_v s7_c ho_s7
   refine DL.pu 2 (s7_v) rfl (p_assign rfl rfl) ?_
   refine DL.nil ?_
   refine TT.freezeAt (j:=0) hE rfl ?_
   intro M8 I8 hE8 hx8 hxI8 hb8
   have hr_8 : IntRow M8 .u8 s7_v [255]:=IntOwn.stays ho_s7 hb8
   show TT _ _ _ _ _ _ _ _ [(some b1,.cells ((Der.ce a0 a0_3 a0_5 a0_6)) 27 (0,0))]
   obtain rfl:=Option.some.inj h5
   exact retF (rs:=[.tmp 2]) (vs:=[s7_v]) s7_v hE8 Tryd.func44 rfl rfl rfl (res_cons (ResV.tmp rfl) res_nil) hr_8
  ·
   replace c4:=Bool.eq_false_iff.mpr c4
   have h9:=ite_false c4 h3
   refine TT.cond_false (x:=sub [1,0,1,0,1,0,0,1,0] B44) (y:=sub [1,0,1,0,1,0,0,1,1] B44) rfl c4 ?_
   refine TT.skip ?_
   refine TT.seq (x:=sub [1,0,1,0,1,0,1,0] B44) (y:=sub [1,0,1,0,1,0,1,1] B44) ?_
   refine TT.rg [0,1] [(.alloc,none),kp] rfl rfl ?_
   refine DL.newSl (zs:=[0]) (n:=1) rfl (by decide) (i:=0) rfl (Wn.none rfl) rfl rfl rfl (f_buildSl (n:=1) (zs:=[0]) (vs:=[(0,.int .u8 0)]) elem23 rfl rfl (by kernel_rfl) rfl (args_val2 rfl)) ?_
   intro s11_v s11_c ho_s11
   refine DL.pu 2 (s11_v) rfl (p_assign rfl rfl) ?_
   refine DL.nil ?_
   refine TT.freezeAt (j:=0) hE rfl ?_
   intro M12 I12 hE12 hx12 hxI12 hb12
   have hr_12 : IntRow M12 .u8 s11_v [0]:=IntOwn.stays ho_s11 hb12
   show TT _ _ _ _ _ _ _ _ [(some b1,.cells ((Der.ce a0 a0_3 a0_5 a0_6)) 27 (0,0))]
   obtain rfl:=Option.some.inj h9
   exact retF (rs:=[.tmp 2]) (vs:=[s11_v]) s11_v hE12 Tryd.func44 rfl rfl rfl (res_cons (ResV.tmp rfl) res_nil) hr_12
 ·
  replace c2:=Bool.eq_false_iff.mpr c2
  have h13:=ite_false c2 h
  refine TT.cond_false (x:=sub [1,0,1,0,1,0] B44) (y:=sub [1,0,1,0,1,1] B44) rfl c2 ?_
  refine TT.seq (x:=sub [1,0,1,0,1,1,0] B44) (y:=sub [1,0,1,0,1,1,1] B44) ?_
  refine TT.rg [0,1] [kp,kp] rfl rfl ?_
  refine DL.pu 18 (.bool ((Der.kind a0) == 2)) rfl (p_eql rfl rfl rfl) ?_
  refine DL.pu 17 (.bool ((Der.kind a0) == 2)) rfl (p_assign rfl rfl) ?_
  refine DL.nil ?_
  by_cases c14 : ((Der.kind a0) == 2) = true
  ·
   have h15:=ite_true c14 h13
   refine TT.cond_true (x:=sub [1,0,1,0,1,1,1,0] B44) (y:=sub [1,0,1,0,1,1,1,1] B44) rfl c14 ?_
   refine TT.seq (x:=sub [1,0,1,0,1,1,1,0,0] B44) (y:=sub [1,0,1,0,1,1,1,0,1] B44) ?_
   refine TT.rg [0,1,2,3] [kp,kq,kx,kp] rfl rfl ?_
   refine DL.pu 19 (ptr b1 2) rfl (p_fieldAddr ty_f27_2 rfl rfl) ?_
   refine DL.qu 20 (.int .i64 (Der.num a0)) rfl (f_load (j:=0) ty_a2 rfl rfl rfl rfl) ?_
   obtain ⟨t16,h17,h18⟩:=bind_some h15
   obtain ⟨g19,h20⟩:=req_some h18
   refine DL.ownx (zs:=t16) (H':=fun t16_v t16_c => [(Value.ownBlock t16_v,.cells t16_c 5 (0,0)),(some b1,.cells ((Der.ce a0 a0_3 a0_5 a0_6)) 27 (0,0))]) (i:=2) rfl (Wn.none rfl) rfl rfl rfl (f_callOwn rfl rfl (args_val (vs:=[.int .i64 (Der.num a0)]) rfl) (fun w => enter59 _ w) (fun w hc => der_whole.ok h17 (M:=M) w (hE.ext hc) )) (fun _ => rfl) ?_
   intro t16_v t16_c ho_t16
   show DL _ _ _ _ _ _ _ _ _ _ _ _ [(Value.ownBlock t16_v,.cells t16_c 5 (0,0)),(some b1,.cells ((Der.ce a0 a0_3 a0_5 a0_6)) 27 (0,0))]
   refine DL.pu 2 (t16_v) rfl (p_assign rfl rfl) ?_
   refine DL.nil ?_
   refine TT.freezeAt (j:=0) hE rfl ?_
   intro M22 I22 hE22 hx22 hxI22 hb22
   have hr_22 : IntRow M22 .u8 t16_v t16:=IntOwn.stays ho_t16 hb22
   show TT _ _ _ _ _ _ _ _ [(some b1,.cells ((Der.ce a0 a0_3 a0_5 a0_6)) 27 (0,0))]
   obtain rfl:=Option.some.inj h20
   exact retF (rs:=[.tmp 2]) (vs:=[t16_v]) t16_v hE22 Tryd.func44 rfl rfl rfl (res_cons (ResV.tmp rfl) res_nil) hr_22
  ·
   replace c14:=Bool.eq_false_iff.mpr c14
   have h23:=ite_false c14 h13
   refine TT.cond_false (x:=sub [1,0,1,0,1,1,1,0] B44) (y:=sub [1,0,1,0,1,1,1,1] B44) rfl c14 ?_
   refine TT.seq (x:=sub [1,0,1,0,1,1,1,1,0] B44) (y:=sub [1,0,1,0,1,1,1,1,1] B44) ?_
   refine TT.rg [0,1] [kp,kp] rfl rfl ?_
   refine DL.pu 23 (.bool ((Der.kind a0) == 3)) rfl (p_eql rfl rfl rfl) ?_
   refine DL.pu 22 (.bool ((Der.kind a0) == 3)) rfl (p_assign rfl rfl) ?_
   refine DL.nil ?_
   by_cases c24 : ((Der.kind a0) == 3) = true
   ·
    have h25:=ite_true c24 h23
    refine TT.cond_true (x:=sub [1,0,1,0,1,1,1,1,1,0] B44) (y:=sub [1,0,1,0,1,1,1,1,1,1] B44) rfl c24 ?_
    refine TT.seq (x:=sub [1,0,1,0,1,1,1,1,1,0,0] B44) (y:=sub [1,0,1,0,1,1,1,1,1,0,1] B44) ?_
    refine TT.rg [0,1,2,3,4] [(.alloc,none),kp,kq,kx,kp] rfl rfl ?_
    refine DL.newSl (zs:=[0]) (n:=1) rfl (by decide) (i:=0) rfl (Wn.none rfl) rfl rfl rfl (f_buildSl (n:=1) (zs:=[0]) (vs:=[(0,.int .u8 0)]) elem23 rfl rfl (by kernel_rfl) rfl (args_val2 rfl)) ?_
    intro s27_v s27_c ho_s27
    refine DL.pu 25 (ptr b1 3) rfl (p_fieldAddr ty_f27_3 rfl rfl) ?_
    refine DL.qu 26 (a0_3) rfl (f_load (j:=1) ty_a23 rfl rfl rfl rfl) ?_
    obtain ⟨g28,h29⟩:=req_some h25
    refine DL.appendI (fun s30_v s30_c => [(Value.ownBlock s30_v,.cells s30_c 5 (0,0)),(some b1,.cells ((Der.ce a0 a0_3 a0_5 a0_6)) 27 (0,0))]) elem23 (j:=0) rfl ho_s27 g28 (by decide) (fun w hc => RowV.src (RowV.mono hr_a0_3 (hE.ext hc)) (encl_one _ _)) (i:=3) rfl (Wn.none rfl) rfl rfl rfl rfl rfl rfl (fun _ _ => rfl) ?_
    intro s30_v s30_c ho_s30
    show DL _ _ _ _ _ _ _ _ _ _ _ _ [(Value.ownBlock s30_v,.cells s30_c 5 (0,0)),(some b1,.cells ((Der.ce a0 a0_3 a0_5 a0_6)) 27 (0,0))]
    refine DL.pu 2 (s30_v) rfl (p_assign rfl rfl) ?_
    refine DL.nil ?_
    refine TT.freezeAt (j:=0) hE rfl ?_
    intro M31 I31 hE31 hx31 hxI31 hb31
    have hr_31 : IntRow M31 .u8 s30_v ([0] ++ (Der.bytes a0)):=IntOwn.stays ho_s30 hb31
    show TT _ _ _ _ _ _ _ _ [(some b1,.cells ((Der.ce a0 a0_3 a0_5 a0_6)) 27 (0,0))]
    obtain rfl:=Option.some.inj h29
    exact retF (rs:=[.tmp 2]) (vs:=[s30_v]) s30_v hE31 Tryd.func44 rfl rfl rfl (res_cons (ResV.tmp rfl) res_nil) hr_31
   ·
    replace c24:=Bool.eq_false_iff.mpr c24
    have h32:=ite_false c24 h23
    refine TT.cond_false (x:=sub [1,0,1,0,1,1,1,1,1,0] B44) (y:=sub [1,0,1,0,1,1,1,1,1,1] B44) rfl c24 ?_
    refine TT.seq (x:=sub [1,0,1,0,1,1,1,1,1,1,0] B44) (y:=sub [1,0,1,0,1,1,1,1,1,1,1] B44) ?_
    refine TT.rg [0,1] [kp,kp] rfl rfl ?_
    refine DL.pu 29 (.bool ((Der.kind a0) == 4)) rfl (p_eql rfl rfl rfl) ?_
    refine DL.pu 28 (.bool ((Der.kind a0) == 4)) rfl (p_assign rfl rfl) ?_
    refine DL.nil ?_
    by_cases c33 : ((Der.kind a0) == 4) = true
    ·
     have h34:=ite_true c33 h32
     refine TT.cond_true (x:=sub [1,0,1,0,1,1,1,1,1,1,1,0] B44) (y:=sub [1,0,1,0,1,1,1,1,1,1,1,1] B44) rfl c33 ?_
     refine TT.seq (x:=sub [1,0,1,0,1,1,1,1,1,1,1,0,0] B44) (y:=sub [1,0,1,0,1,1,1,1,1,1,1,0,1] B44) ?_
     refine TT.rg [0,1,2] [kp,kq,kp] rfl rfl ?_
     refine DL.pu 30 (ptr b1 3) rfl (p_fieldAddr ty_f27_3 rfl rfl) ?_
     refine DL.qu 31 (a0_3) rfl (f_load (j:=0) ty_a23 rfl rfl rfl rfl) ?_
     refine DL.pu 2 (a0_3) rfl (p_assign rfl rfl) ?_
     refine DL.nil ?_
     obtain rfl:=Option.some.inj h34
     exact retF (rs:=[.tmp 2]) (vs:=[a0_3]) a0_3 hE Tryd.func44 rfl rfl rfl (res_cons (ResV.tmp rfl) res_nil) hr_a0_3
    ·
     replace c33:=Bool.eq_false_iff.mpr c33
     have h35:=ite_false c33 h32
     refine TT.cond_false (x:=sub [1,0,1,0,1,1,1,1,1,1,1,0] B44) (y:=sub [1,0,1,0,1,1,1,1,1,1,1,1] B44) rfl c33 ?_
     refine TT.seq (x:=sub [1,0,1,0,1,1,1,1,1,1,1,1,0] B44) (y:=sub [1,0,1,0,1,1,1,1,1,1,1,1,1] B44) ?_
     refine TT.rg [0,1] [kp,kp] rfl rfl ?_
     refine DL.pu 33 (.bool ((Der.kind a0) == 5)) rfl (p_eql rfl rfl rfl) ?_
     refine DL.pu 32 (.bool ((Der.kind a0) == 5)) rfl (p_assign rfl rfl) ?_
     refine DL.nil ?_
     by_cases c36 : ((Der.kind a0) == 5) = true
     ·
      have h37:=ite_true c36 h35
      refine TT.cond_true (x:=sub [1,0,1,0,1,1,1,1,1,1,1,1,1,0] B44) (y:=sub [1,0,1,0,1,1,1,1,1,1,1,1,1,1] B44) rfl c36 ?_
      refine TT.seq (x:=sub [1,0,1,0,1,1,1,1,1,1,1,1,1,0,0] B44) (y:=sub [1,0,1,0,1,1,1,1,1,1,1,1,1,0,1] B44) ?_
      refine TT.rgD [0,1,2,3,4,5,6,7,8,9,10,11] [0,1,3,7,15,0,32,96,224,511,1023,2047] [kp,(.look,some 0),kp,kq,kp,kp,(.look,some 0),kp,kq,kp,kx,kp] rfl mixed (by kernel_rfl) ?_
      intro w38 hl38 hj38 hz38
      refine DL.pu 34 (ptr b1 5) rfl (p_fieldAddr ty_f27_5 rfl rfl) ?_
      refine DL.look (v:=a0_5) (x:=0) (b:=b1) (i:=1) rfl (Wn.none rfl) rfl rfl rfl rfl rfl (List.mem_of_getElem? (i:=0) rfl) (b_load ty_a24 rfl rfl rfl) ?_
      obtain ⟨g39,h40⟩:=req_some h37
      refine DL.pu 36 (elp a0_5 ((0 : Int).toNat)) rfl (p_slIx1 ty_u24 ty_s50 (RowV.some hr_a0_5 (by decide) g39) (by decide) g39 rfl rfl rfl) ?_
      refine DL.qu 37 (.int .u64 ((Der.arcs a0).getD ((0 : Int).toNat) 0)) rfl (q_loadEl (fun w hc => hE.imm hc) hr_a0_5 (encl_get .u64 (lt_len (by decide) g39)) ty_a50 rfl rfl) ?_
      obtain ⟨t41,e42,h43⟩:=nm_some h40
      refine DL.pu 38 (.int .u64 t41) rfl (by rw [e42]; exact p_mul rfl rfl rfl) ?_
      refine DL.pu 39 (ptr b1 5) rfl (p_fieldAddr ty_f27_5 rfl rfl) ?_
      refine DL.look (v:=a0_5) (x:=0) (b:=b1) (i:=6) rfl (Wn.none rfl) rfl rfl rfl rfl rfl (List.mem_of_getElem? (i:=0) rfl) (b_load ty_a24 rfl rfl rfl) ?_
      obtain ⟨g44,h45⟩:=req_some h43
      refine DL.pu 41 (elp a0_5 ((1 : Int).toNat)) rfl (p_slIx1 ty_u24 ty_s50 (RowV.some hr_a0_5 (by decide) g44) (by decide) g44 rfl rfl rfl) ?_
      refine DL.qu 42 (.int .u64 ((Der.arcs a0).getD ((1 : Int).toNat) 0)) rfl (q_loadEl (fun w hc => hE.imm hc) hr_a0_5 (encl_get .u64 (lt_len (by decide) g44)) ty_a50 rfl rfl) ?_
      obtain ⟨t46,e47,h48⟩:=nm_some h45
      refine DL.pu 43 (.int .u64 t46) rfl (by rw [e47]; exact p_add rfl rfl rfl) ?_
      obtain ⟨t49,h50,h51⟩:=bind_some h48
      obtain ⟨g52,h53⟩:=req_some h51
      refine DL.ownx (zs:=t49) (H':=fun t49_v t49_c => [(Value.ownBlock t49_v,.cells t49_c 5 (0,0)),(some b1,.cells ((Der.ce a0 a0_3 a0_5 a0_6)) 27 (0,0))]) (i:=10) rfl (Wn.none rfl) rfl rfl rfl (f_callOwn rfl rfl (args_val (vs:=[.int .u64 t46]) rfl) (fun w => enter60 _ w) (fun w hc => der_groups.ok h50 (M:=M) w (hE.ext hc) )) (fun _ => rfl) ?_
      intro t49_v t49_c ho_t49
      show DL _ _ _ _ _ _ _ _ _ _ _ _ [(Value.ownBlock t49_v,.cells t49_c 5 (0,0)),(some b1,.cells ((Der.ce a0 a0_3 a0_5 a0_6)) 27 (0,0))]
      refine DL.pu 3 (t49_v) rfl (p_assign rfl rfl) ?_
      refine DL.nil' hl38 ?_
      refine TT.seq (x:=sub [1,0,1,0,1,1,1,1,1,1,1,1,1,0,1,0] B44) (y:=sub [1,0,1,0,1,1,1,1,1,1,1,1,1,0,1,1] B44) ?_
      refine TT.seq (x:=sub [1,0,1,0,1,1,1,1,1,1,1,1,1,0,1,0,0] B44) (y:=sub [1,0,1,0,1,1,1,1,1,1,1,1,1,0,1,0,1] B44) ?_
      refine TT.rg [0,1,2,3,4] [kp,kq,kp,kp,kp] rfl rfl ?_
      refine DL.pu 45 (ptr b1 5) rfl (p_fieldAddr ty_f27_5 rfl rfl) ?_
      refine DL.qu 46 (a0_5) rfl (f_load (j:=1) ty_a24 rfl rfl rfl rfl) ?_
      obtain ⟨g56,h57⟩:=req_some h53
      obtain ⟨v55,v55_e⟩ : ∃ u,u = subsl a0_5 1 (2 : Int).toNat (Der.arcs a0).length:=⟨_,rfl⟩
      have hr_v55 : IntRow M .u64 v55 ((Der.arcs a0).drop (2 : Int).toNat):=by rw [v55_e]; exact (IntRow.subL hr_a0_5 (toNat_le g56))
      refine DL.pu 47 (v55) rfl (by rw [v55_e]; exact p_subL ty_u24 ty_s50 hr_a0_5 (by decide) g56 rfl rfl rfl) ?_
      refine DL.pu 48 (.int .i64 (((Der.arcs a0).drop (2 : Int).toNat).length : Int)) rfl (p_slLen ty_u24 (RowV.sl hr_v55) rfl rfl) ?_
      refine DL.mv 49 (.int .i64 0) rfl rfl rfl ?_
      refine DL.nil ?_
      refine TT.block (c:=sub [1,0,1,0,1,1,1,1,1,1,1,1,1,0,1,0,1,0] B44) ?_
      refine TT.loop (c:=sub [1,0,1,0,1,1,1,1,1,1,1,1,1,0,1,0,1,0,0] B44) ?_
      obtain ⟨z_o54_129,h149,h150⟩:=bind_some h57
      refine TT.weak (der_content.L0_ok a0 a0_3 a0_5 a0_6 b1 v55 hE hr_v55 ((((Der.arcs a0).drop (2 : Int).toNat).length : Int).toNat + 1) t49 0 t49_v t49_c z_o54_129 ho_t49 h149 (fun z_o54_129_v z_o54_129_c ho_z_o54_129 => ?_)) (Sub.cons rfl (Sub.cons rfl (Sub.cons rfl (Sub.cons rfl (Sub.nil _)))))
      refine TT.seq (x:=sub [1,0,1,0,1,1,1,1,1,1,1,1,1,0,1,1,0] B44) (y:=sub [1,0,1,0,1,1,1,1,1,1,1,1,1,0,1,1,1] B44) ?_
      refine TT.rg [0,1] [kp,kp] rfl rfl ?_
      refine DL.mv 58 (z_o54_129_v) rfl rfl rfl ?_
      refine DL.pu 2 (z_o54_129_v) rfl (p_assign rfl rfl) ?_
      refine DL.nil ?_
      refine TT.freezeAt (j:=0) hE rfl ?_
      intro M152 I152 hE152 hx152 hxI152 hb152
      have hr_152 : IntRow M152 .u8 z_o54_129_v z_o54_129:=IntOwn.stays ho_z_o54_129 hb152
      show TT _ _ _ _ _ _ _ _ [(some b1,.cells ((Der.ce a0 a0_3 a0_5 a0_6)) 27 (0,0))]
      obtain rfl:=Option.some.inj h150
      exact retF (rs:=[.tmp 2]) (vs:=[z_o54_129_v]) z_o54_129_v hE152 Tryd.func44 rfl rfl rfl (res_cons (ResV.tmp rfl) res_nil) hr_152
     ·
      replace c36:=Bool.eq_false_iff.mpr c36
      have h153:=ite_false c36 h35
      refine TT.cond_false (x:=sub [1,0,1,0,1,1,1,1,1,1,1,1,1,0] B44) (y:=sub [1,0,1,0,1,1,1,1,1,1,1,1,1,1] B44) rfl c36 ?_
      refine TT.seq (x:=sub [1,0,1,0,1,1,1,1,1,1,1,1,1,1,0] B44) (y:=sub [1,0,1,0,1,1,1,1,1,1,1,1,1,1,1] B44) ?_
      refine TT.seq (x:=sub [1,0,1,0,1,1,1,1,1,1,1,1,1,1,0,0] B44) (y:=sub [1,0,1,0,1,1,1,1,1,1,1,1,1,1,0,1] B44) ?_
      refine TT.rg [0,1] [kp,kp] rfl rfl ?_
      refine DL.pu 60 (.bool ((Der.kind a0) == 6)) rfl (p_eql rfl rfl rfl) ?_
      refine DL.pu 59 (.bool ((Der.kind a0) == 6)) rfl (p_assign rfl rfl) ?_
      refine DL.nil ?_
      obtain ⟨j59_155,h156,h157⟩:=bind_some h153
      have J158 : TT Tryd.prog 44 (PostF (G:=Value) (fun g => g) (fun g M_ => (IntRow M_ .u8 g r)) M w) 78 w (heapOf w) (.code (sub [1,0,1,0,1,1,1,1,1,1,1,1,1,1,1] B44) :: .inBlock 0 :: .code (sub [1,1] B44) :: []) [(1,ptr b1 0),(59,.bool j59_155)] [(some b1,.cells ((Der.ce a0 a0_3 a0_5 a0_6)) 27 (0,0))]:=by
       by_cases c162 : j59_155 = true
       ·
        have h163:=ite_true c162 h157
        refine TT.cond_true (x:=sub [1,0,1,0,1,1,1,1,1,1,1,1,1,1,1,0] B44) (y:=sub [1,0,1,0,1,1,1,1,1,1,1,1,1,1,1,1] B44) rfl c162 ?_
        refine TT.seq (x:=sub [1,0,1,0,1,1,1,1,1,1,1,1,1,1,1,0,0] B44) (y:=sub [1,0,1,0,1,1,1,1,1,1,1,1,1,1,1,0,1] B44) ?_
        refine TT.rg [0,1,2,3] [kp,kq,kk,kp] rfl rfl ?_
        refine DL.pu 62 (ptr b1 4) rfl (p_fieldAddr ty_f27_4 rfl rfl) ?_
        refine DL.qu 63 (str (Der.text a0)) rfl (f_load (j:=0) ty_a9 rfl rfl rfl rfl) ?_
        refine DL.strBytes (A:=[(some b1,.cells ((Der.ce a0 a0_3 a0_5 a0_6)) 27 (0,0))]) (J:=[]) (fun J164 => ((some b1,.cells ((Der.ce a0 a0_3 a0_5 a0_6)) 27 (0,0)) :: J164)) (Nat.le_refl _) hE.nil (List.append_nil _).symm (fun _ => rfl) (i:=2) rfl (Wn.none rfl) rfl rfl rfl ty_us9 ty_us23 ty_us5 rfl rfl ?_
        intro v164 M164 J164 hE164 hx164 hr_v164
        show DL _ _ _ _ _ _ _ _ _ _ _ _ ((some b1,.cells ((Der.ce a0 a0_3 a0_5 a0_6)) 27 (0,0)) :: J164)
        refine DL.pu 2 (v164) rfl (p_assign rfl rfl) ?_
        refine DL.nil ?_
        refine TT.settle (A:=[(some b1,.cells ((Der.ce a0 a0_3 a0_5 a0_6)) 27 (0,0))]) (J:=J164) hE164 ?_
        intro I165 hE165 hxI165
        obtain rfl:=Option.some.inj h163
        exact retF (rs:=[.tmp 2]) (vs:=[v164]) v164 hE165 Tryd.func44 rfl rfl rfl (res_cons (ResV.tmp rfl) res_nil) hr_v164
       ·
        replace c162:=Bool.eq_false_iff.mpr c162
        have h166:=ite_false c162 h157
        refine TT.cond_false (x:=sub [1,0,1,0,1,1,1,1,1,1,1,1,1,1,1,0] B44) (y:=sub [1,0,1,0,1,1,1,1,1,1,1,1,1,1,1,1] B44) rfl c162 ?_
        refine TT.skip ?_
        refine TT.inBlock ?_
        refine TT.seq (x:=sub [1,1,0] B44) (y:=sub [1,1,1] B44) ?_
        refine TT.rg [0] [kp] rfl rfl ?_
        refine DL.pu 6 (.slice none 0 0) rfl (p_assign rfl rfl) ?_
        refine DL.nil ?_
        refine TT.seq (x:=sub [1,1,1,0] B44) (y:=sub [1,1,1,1] B44) ?_
        refine TT.seq (x:=sub [1,1,1,0,0] B44) (y:=sub [1,1,1,0,1] B44) ?_
        refine TT.rg [0,1,2,3] [kp,kq,kp,kp] rfl rfl ?_
        refine DL.pu 65 (ptr b1 6) rfl (p_fieldAddr ty_f27_6 rfl rfl) ?_
        refine DL.qu 66 (a0_6) rfl (f_load (j:=0) ty_a25 rfl rfl rfl rfl) ?_
        refine DL.pu 67 (.int .i64 ((Tree.kids a0).length : Int)) rfl (p_slLen ty_u25 (RowS.sl hr_a0_6) rfl rfl) ?_
        refine DL.mv 68 (.int .i64 0) rfl rfl rfl ?_
        refine DL.nil ?_
        refine TT.block (c:=sub [1,1,1,0,1,0] B44) ?_
        refine TT.nilOwn (e:=5) ?_
        refine TT.loop (c:=sub [1,1,1,0,1,0,0] B44) ?_
        obtain ⟨z_o167_240,h264,h265⟩:=bind_some h166
        refine TT.weak (der_content.L1_ok hr_der_pack a0 a0_3 a0_5 a0_6 b1 hr_a0_6 (((Tree.kids a0).length : Int).toNat + 1) M (heapOf w) hE (Ext.refl _) ([] : List Int) 0 (.slice none 0 0) (#[]) z_o167_240 (IntOwn.nil .u8) h264 (fun M266 I266 hE266 hx266 z_o167_240_v z_o167_240_c ho_z_o167_240 => ?_)) (Sub.cons rfl (Sub.cons rfl (Sub.cons rfl (Sub.cons rfl (Sub.nil _)))))
        refine TT.seq (x:=sub [1,1,1,1,0] B44) (y:=sub [1,1,1,1,1] B44) ?_
        refine TT.rg [0,1] [kp,kp] rfl rfl ?_
        refine DL.mv 77 (z_o167_240_v) rfl rfl rfl ?_
        refine DL.pu 2 (z_o167_240_v) rfl (p_assign rfl rfl) ?_
        refine DL.nil ?_
        refine TT.freezeAt (j:=0) hE266 rfl ?_
        intro M267 I267 hE267 hx267 hxI267 hb267
        have hr_267 : IntRow M267 .u8 z_o167_240_v z_o167_240:=IntOwn.stays ho_z_o167_240 hb267
        show TT _ _ _ _ _ _ _ _ [(some b1,.cells ((Der.ce a0 a0_3 a0_5 a0_6)) 27 (0,0))]
        obtain rfl:=Option.some.inj h265
        exact retF (rs:=[.tmp 2]) (vs:=[z_o167_240_v]) z_o167_240_v hE267 Tryd.func44 rfl rfl rfl (res_cons (ResV.tmp rfl) res_nil) hr_267
      by_cases c154 : ((Der.kind a0) == 6) = true
      ·
       have h160:=ite_true c154 h156
       refine TT.cond_true (x:=sub [1,0,1,0,1,1,1,1,1,1,1,1,1,1,0,1,0] B44) (y:=sub [1,0,1,0,1,1,1,1,1,1,1,1,1,1,0,1,1] B44) rfl c154 ?_
       refine TT.skip ?_
       obtain rfl:=Option.some.inj h160
       exact TT.weak (J158 ) (Sub.cons rfl (Sub.cons rfl (Sub.nil _)))
      ·
       replace c154:=Bool.eq_false_iff.mpr c154
       have h161:=ite_false c154 h156
       refine TT.cond_false (x:=sub [1,0,1,0,1,1,1,1,1,1,1,1,1,1,0,1,0] B44) (y:=sub [1,0,1,0,1,1,1,1,1,1,1,1,1,1,0,1,1] B44) rfl c154 ?_
       refine TT.rg [0,1] [kp,kp] rfl rfl ?_
       refine DL.pu 61 (.bool ((Der.kind a0) == 10)) rfl (p_eql rfl rfl rfl) ?_
       refine DL.pu 59 (.bool ((Der.kind a0) == 10)) rfl (p_assign rfl rfl) ?_
       refine DL.nil ?_
       obtain rfl:=Option.some.inj h161
       exact TT.weak (J158 ) (Sub.cons rfl (Sub.cons rfl (Sub.nil _)))

/-! ### escutcheon/der.pack: function 31 -/
noncomputable def B31 : Code:=bodyOf Tryd.f31
def der_pack.F (r_der_pack : Der → Option ((List Int))) (a0 : Der) : Option ((List Int)):=(der_tags.f).bind fun _ => nm (assocD [(1,1),(2,2),(3,3),(4,4),(5,6),(6,12),(10,24),(7,48),(9,49),(8,160)] (Der.kind a0)) fun t7 => (if ((Der.kind a0) == 8) = true then (nm (IntKind.u8.wrap (t7 + (IntKind.u8.wrap (Der.num a0)))) fun t17 => some t17) else (some t7)).bind fun j3_11 => (der_content.f r_der_pack a0).bind fun t21 => if (decide (65535 < (t21.length : Int))) = true then (some (List.replicate 65536 (0 : Int))) else ((if (decide (255 < (t21.length : Int))) = true then (nm (IntKind.u8.wrap (ishr .i64 (t21.length : Int) 8)) fun t41 => req ([j3_11].length + [130,t41,IntKind.u8.wrap (t21.length : Int)].length ≤ 1099511627776) (some ([j3_11] ++ [130,t41,IntKind.u8.wrap (t21.length : Int)]))) else ((if (decide (127 < (t21.length : Int))) = true then (req ([j3_11].length + [129,IntKind.u8.wrap (t21.length : Int)].length ≤ 1099511627776) (some ([j3_11] ++ [129,IntKind.u8.wrap (t21.length : Int)]))) else (req ([j3_11].length + [IntKind.u8.wrap (t21.length : Int)].length ≤ 1099511627776) (some ([j3_11] ++ [IntKind.u8.wrap (t21.length : Int)])))).bind fun j_o26_51 => some j_o26_51)).bind fun j_o26_35 => req (j_o26_35.length + t21.length ≤ 1099511627776) (some (j_o26_35 ++ t21)))
set_option maxRecDepth 20000 in
theorem der_pack.okF {r_der_pack : Der → Option ((List Int))} (hr_der_pack : der_pack.Rec r_der_pack) {a0 : Der} {a0_3 : Value} {a0_5 : Value} {a0_6 : Value} {r : List Int} (h : der_pack.F r_der_pack a0 = some r) {M : Mem} (w : World) (hM : Ext M (heapOf w)) (hr_a0_3 : IntRow M .u8 a0_3 (Der.bytes a0)) (hr_a0_5 : IntRow M .u64 a0_5 (Der.arcs a0)) (hr_a0_6 : RowS ShDer M a0_6 (Tree.kids a0)) : Calls Tryd.prog 31 #[.agg (Der.ce a0 a0_3 a0_5 a0_6)] w (PostF (G:=Value) (fun g => g) (fun g M_ => (IntRow M_ .u8 g r)) M w):=by
 unfold der_pack.F at h
 have hE:=Env.start hM
 refine calls_of_TT (N:=56) (S:=[(0,.agg (Der.ce a0 a0_3 a0_5 a0_6))]) (c:=B31) Tryd.func31 rfl rfl rfl (by simp) ?_
 show TT _ _ _ _ _ _ [.code (sub [] B31)] _ _
 refine TT.seq (x:=sub [0] B31) (y:=sub [1] B31) ?_
 refine TT.rg [0,1] [(.alloc,none),kp] rfl rfl ?_
 refine DL.new (ob:=.cells ((Der.ce a0 a0_3 a0_5 a0_6)) 27) (mk:=fun b => ptr b 0) (i:=0) rfl (Wn.none rfl) rfl rfl rfl (f_box (v:=.agg (Der.ce a0 a0_3 a0_5 a0_6)) rfl rfl) ?_
 intro b1 hb1
 refine DL.pu 2 (.slice none 0 0) rfl (p_assign rfl rfl) ?_
 refine DL.nil ?_
 refine TT.seq (x:=sub [1,0] B31) (y:=sub [1,1] B31) ?_
 refine TT.rgD [1,2,0,3,4] [0,0,2,7,15] [kk,kp,(.look,some 0),kq,kp] rfl mixed (by kernel_rfl) ?_
 intro w2 hl2 hj2 hz2
 refine DL.pu 8 (ptr b1 0) rfl (p_fieldAddr ty_f27_0 rfl rfl) ?_
 refine DL.look (v:=.int .i64 (Der.kind a0)) (x:=0) (b:=b1) (i:=2) rfl (Wn.none rfl) rfl rfl rfl rfl rfl (List.mem_of_getElem? (i:=0) rfl) (b_load ty_a22 rfl rfl rfl) ?_
 obtain ⟨_,h3,h4⟩:=bind_some h
 refine DL.handK (v:=fun g => .map (some g)) (E:=fun g => [(some g,mobj .i64 [(1,.int .u8 1),(2,.int .u8 2),(3,.int .u8 3),(4,.int .u8 4),(5,.int .u8 6),(6,.int .u8 12),(10,.int .u8 24),(7,.int .u8 48),(9,.int .u8 49),(8,.int .u8 160)])]) (p:=fun _ => True) (i:=0) rfl (Wn.none rfl) rfl rfl rfl (f_callH (by simp) rfl rfl rfl (args_val (vs:=[]) rfl) (fun w => enter43 _ w) (fun w hc => der_tags.ok h3 (M:=heapOf w) w (Ext.refl _))) ?_
 intro b6 _; dsimp only [List.cons_append,List.nil_append]
 obtain ⟨t7,e8,h9⟩:=nm_some h4
 refine DL.qu 10 (.int .u8 t7) rfl (by rw [e8,← mfind_intD .u8]; exact f_lookup (a:=(Der.kind a0)) (j:=0) ty_u68 ty_u22 ty_z5 rfl rfl rfl rfl) ?_
 refine DL.pu 3 (.int .u8 t7) rfl (p_assign rfl rfl) ?_
 refine DL.nil' hl2 ?_
 refine TT.seq (x:=sub [1,1,0] B31) (y:=sub [1,1,1] B31) ?_
 refine TT.seq (x:=sub [1,1,0,0] B31) (y:=sub [1,1,0,1] B31) ?_
 refine TT.rg [0,1,2] [kp,kq,kp] rfl rfl ?_
 refine DL.pu 11 (ptr b1 0) rfl (p_fieldAddr ty_f27_0 rfl rfl) ?_
 refine DL.qu 12 (.int .i64 (Der.kind a0)) rfl (f_load (j:=1) ty_a22 rfl rfl rfl rfl) ?_
 refine DL.pu 13 (.bool ((Der.kind a0) == 8)) rfl (p_eql rfl rfl rfl) ?_
 refine DL.nil ?_
 obtain ⟨j3_11,h12,h13⟩:=bind_some h9
 have J14 : TT Tryd.prog 31 (PostF (G:=Value) (fun g => g) (fun g M_ => (IntRow M_ .u8 g r)) M w) 56 w (heapOf w) (.code (sub [1,1,1] B31) :: []) [(1,ptr b1 0),(3,.int .u8 j3_11)] [(some b6,mobj .i64 [(1,.int .u8 1),(2,.int .u8 2),(3,.int .u8 3),(4,.int .u8 4),(5,.int .u8 6),(6,.int .u8 12),(10,.int .u8 24),(7,.int .u8 48),(9,.int .u8 49),(8,.int .u8 160)]),(some b1,.cells ((Der.ce a0 a0_3 a0_5 a0_6)) 27 (0,0))]:=by
  refine TT.seq (x:=sub [1,1,1,0] B31) (y:=sub [1,1,1,1] B31) ?_
  refine TT.rg [0,1,2] [kq,kk,kp] rfl rfl ?_
  refine DL.qu 19 (.agg (Der.ce a0 a0_3 a0_5 a0_6)) rfl (f_loadA (j:=1) ty_a27 ty_s27 rfl rfl rfl rfl) ?_
  obtain ⟨t21,h22,h23⟩:=bind_some h13
  refine DL.callF (G:=Value) (u:=fun g => g) (Q:=fun g M_ => (IntRow M_ .u8 g t21)) (A:=[(some b6,mobj .i64 [(1,.int .u8 1),(2,.int .u8 2),(3,.int .u8 3),(4,.int .u8 4),(5,.int .u8 6),(6,.int .u8 12),(10,.int .u8 24),(7,.int .u8 48),(9,.int .u8 49),(8,.int .u8 160)]),(some b1,.cells ((Der.ce a0 a0_3 a0_5 a0_6)) 27 (0,0))]) (J:=[]) (fun J24 => ((some b6,mobj .i64 [(1,.int .u8 1),(2,.int .u8 2),(3,.int .u8 3),(4,.int .u8 4),(5,.int .u8 6),(6,.int .u8 12),(10,.int .u8 24),(7,.int .u8 48),(9,.int .u8 49),(8,.int .u8 160)]) :: (some b1,.cells ((Der.ce a0 a0_3 a0_5 a0_6)) 27 (0,0)) :: J24)) (Nat.le_refl _) hE.nil (List.append_nil _).symm (fun _ => rfl) (by simp) (i:=1) rfl (Wn.none rfl) rfl rfl rfl rfl rfl rfl (args_val (vs:=[.agg (Der.ce a0 a0_3 a0_5 a0_6)]) rfl) (fun w => enter44 _ w) (fun w hc hI => der_content.ok hr_der_pack h22 (M:=M) w hI hr_a0_3 hr_a0_5 hr_a0_6) ?_
  rintro t21_v M24 J24 hE24 hx24 hr_t21
  show DL _ _ _ _ _ _ _ _ _ _ _ _ ((some b6,mobj .i64 [(1,.int .u8 1),(2,.int .u8 2),(3,.int .u8 3),(4,.int .u8 4),(5,.int .u8 6),(6,.int .u8 12),(10,.int .u8 24),(7,.int .u8 48),(9,.int .u8 49),(8,.int .u8 160)]) :: (some b1,.cells ((Der.ce a0 a0_3 a0_5 a0_6)) 27 (0,0)) :: J24)
  refine DL.pu 4 (t21_v) rfl (p_assign rfl rfl) ?_
  refine DL.nil ?_
  refine TT.settle (A:=[(some b6,mobj .i64 [(1,.int .u8 1),(2,.int .u8 2),(3,.int .u8 3),(4,.int .u8 4),(5,.int .u8 6),(6,.int .u8 12),(10,.int .u8 24),(7,.int .u8 48),(9,.int .u8 49),(8,.int .u8 160)]),(some b1,.cells ((Der.ce a0 a0_3 a0_5 a0_6)) 27 (0,0))]) (J:=J24) hE24 ?_
  intro I25 hE25 hxI25
  refine TT.seq (x:=sub [1,1,1,1,0] B31) (y:=sub [1,1,1,1,1] B31) ?_
  refine TT.rg [0,1,2] [kp,(.alloc,none),kp] rfl rfl ?_
  refine DL.mv 21 (.int .u8 j3_11) rfl rfl rfl ?_
  refine DL.newSl (zs:=[j3_11]) (n:=1) rfl (by decide) (i:=1) rfl (Wn.none rfl) rfl rfl rfl (f_buildSl (n:=1) (zs:=[j3_11]) (vs:=[(0,.int .u8 j3_11)]) elem23 rfl rfl (by kernel_rfl) rfl (args_val2 rfl)) ?_
  intro s27_v s27_c ho_s27
  refine DL.pu 5 (s27_v) rfl (p_assign rfl rfl) ?_
  refine DL.nil ?_
  refine TT.seq (x:=sub [1,1,1,1,1,0] B31) (y:=sub [1,1,1,1,1,1] B31) ?_
  refine TT.seq (x:=sub [1,1,1,1,1,0,0] B31) (y:=sub [1,1,1,1,1,0,1] B31) ?_
  refine TT.rg [0,1,2] [kp,kp,kp] rfl rfl ?_
  refine DL.mv 23 (t21_v) rfl rfl rfl ?_
  refine DL.pu 24 (.int .i64 (t21.length : Int)) rfl (p_slLen ty_u23 (RowV.sl hr_t21) rfl rfl) ?_
  refine DL.pu 6 (.int .i64 (t21.length : Int)) rfl (p_assign rfl rfl) ?_
  refine DL.nil ?_
  refine TT.block (c:=sub [1,1,1,1,1,0,1,0] B31) ?_
  refine TT.seq (x:=sub [1,1,1,1,1,0,1,0,0] B31) (y:=sub [1,1,1,1,1,0,1,0,1] B31) ?_
  refine TT.rg [0,1,2] [kp,kp,kp] rfl rfl ?_
  refine DL.mv 31 (.int .i64 (t21.length : Int)) rfl rfl rfl ?_
  refine DL.pu 32 (.bool (decide (65535 < (t21.length : Int)))) rfl (p_gtr rfl rfl rfl) ?_
  refine DL.pu 30 (.bool (decide (65535 < (t21.length : Int)))) rfl (p_assign rfl rfl) ?_
  refine DL.nil ?_
  by_cases c28 : (decide (65535 < (t21.length : Int))) = true
  ·
   have h29:=ite_true c28 h23
   refine TT.cond_true (x:=sub [1,1,1,1,1,0,1,0,1,0] B31) (y:=sub [1,1,1,1,1,0,1,0,1,1] B31) rfl c28 ?_
   refine TT.seq (x:=sub [1,1,1,1,1,0,1,0,1,0,0] B31) (y:=sub [1,1,1,1,1,0,1,0,1,0,1] B31) ?_
   refine TT.rg [0,1] [(.alloc,none),kp] rfl rfl ?_
   refine DL.newSl (zs:=List.replicate 65536 (0 : Int)) (n:=65536) List.length_replicate (by decide) (i:=0) rfl (Wn.none rfl) rfl rfl rfl (f_make (n:=65536) elem23 (by decide) (by decide) rfl rfl rfl) ?_
   intro s31_v s31_c ho_s31
   refine DL.pu 2 (s31_v) rfl (p_assign rfl rfl) ?_
   refine DL.nil ?_
   refine TT.freezeAt (j:=0) hE25 rfl ?_
   intro M32 I32 hE32 hx32 hxI32 hb32
   have hr_32 : IntRow M32 .u8 s31_v (List.replicate 65536 (0 : Int)):=IntOwn.stays ho_s31 hb32
   show TT _ _ _ _ _ _ _ _ [(Value.ownBlock s27_v,.cells s27_c 5 (0,0)),(some b6,mobj .i64 [(1,.int .u8 1),(2,.int .u8 2),(3,.int .u8 3),(4,.int .u8 4),(5,.int .u8 6),(6,.int .u8 12),(10,.int .u8 24),(7,.int .u8 48),(9,.int .u8 49),(8,.int .u8 160)]),(some b1,.cells ((Der.ce a0 a0_3 a0_5 a0_6)) 27 (0,0))]
   obtain rfl:=Option.some.inj h29
   exact retF (rs:=[.tmp 2]) (vs:=[s31_v]) s31_v hE32 Tryd.func31 rfl rfl rfl (res_cons (ResV.tmp rfl) res_nil) hr_32
  ·
   replace c28:=Bool.eq_false_iff.mpr c28
   have h33:=ite_false c28 h23
   refine TT.cond_false (x:=sub [1,1,1,1,1,0,1,0,1,0] B31) (y:=sub [1,1,1,1,1,0,1,0,1,1] B31) rfl c28 ?_
   refine TT.seq (x:=sub [1,1,1,1,1,0,1,0,1,1,0] B31) (y:=sub [1,1,1,1,1,0,1,0,1,1,1] B31) ?_
   refine TT.rg [0,1,2] [kp,kp,kp] rfl rfl ?_
   refine DL.mv 35 (.int .i64 (t21.length : Int)) rfl rfl rfl ?_
   refine DL.pu 36 (.bool (decide (255 < (t21.length : Int)))) rfl (p_gtr rfl rfl rfl) ?_
   refine DL.pu 34 (.bool (decide (255 < (t21.length : Int)))) rfl (p_assign rfl rfl) ?_
   refine DL.nil ?_
   obtain ⟨j_o26_35,h36,h37⟩:=bind_some h33
   have J38 : ∀ (j_o26_35_v : Value),∀ (j_o26_35_c : Array Value),IntOwn .u8 j_o26_35_v j_o26_35_c j_o26_35 → TT Tryd.prog 31 (PostF (G:=Value) (fun g => g) (fun g M_ => (IntRow M_ .u8 g r)) M w) 56 w I25 (.inBlock 0 :: .code (sub [1,1,1,1,1,1] B31) :: []) [(4,t21_v),(5,j_o26_35_v)] [(Value.ownBlock j_o26_35_v,.cells j_o26_35_c 5 (0,0)),(some b6,mobj .i64 [(1,.int .u8 1),(2,.int .u8 2),(3,.int .u8 3),(4,.int .u8 4),(5,.int .u8 6),(6,.int .u8 12),(10,.int .u8 24),(7,.int .u8 48),(9,.int .u8 49),(8,.int .u8 160)]),(some b1,.cells ((Der.ce a0 a0_3 a0_5 a0_6)) 27 (0,0))]:=by
    intro j_o26_35_v j_o26_35_c ho_j_o26_35
    refine TT.inBlock ?_
    refine TT.seq (x:=sub [1,1,1,1,1,1,0] B31) (y:=sub [1,1,1,1,1,1,1] B31) ?_
    refine TT.rg [0,1,2,3] [kp,kp,kx,kp] rfl rfl ?_
    refine DL.mv 53 (j_o26_35_v) rfl rfl rfl ?_
    refine DL.mv 54 (t21_v) rfl rfl rfl ?_
    obtain ⟨g68,h69⟩:=req_some h37
    refine DL.appendI (fun s70_v s70_c => [(Value.ownBlock s70_v,.cells s70_c 5 (0,0)),(some b6,mobj .i64 [(1,.int .u8 1),(2,.int .u8 2),(3,.int .u8 3),(4,.int .u8 4),(5,.int .u8 6),(6,.int .u8 12),(10,.int .u8 24),(7,.int .u8 48),(9,.int .u8 49),(8,.int .u8 160)]),(some b1,.cells ((Der.ce a0 a0_3 a0_5 a0_6)) 27 (0,0))]) elem23 (j:=0) rfl ho_j_o26_35 g68 (by decide) (fun w hc => RowV.src (RowV.mono hr_t21 (hE25.ext hc)) (encl_one _ _)) (i:=2) rfl (Wn.none rfl) rfl rfl rfl rfl rfl rfl (fun _ _ => rfl) ?_
    intro s70_v s70_c ho_s70
    show DL _ _ _ _ _ _ _ _ _ _ _ _ [(Value.ownBlock s70_v,.cells s70_c 5 (0,0)),(some b6,mobj .i64 [(1,.int .u8 1),(2,.int .u8 2),(3,.int .u8 3),(4,.int .u8 4),(5,.int .u8 6),(6,.int .u8 12),(10,.int .u8 24),(7,.int .u8 48),(9,.int .u8 49),(8,.int .u8 160)]),(some b1,.cells ((Der.ce a0 a0_3 a0_5 a0_6)) 27 (0,0))]
    refine DL.pu 2 (s70_v) rfl (p_assign rfl rfl) ?_
    refine DL.nil ?_
    refine TT.freezeAt (j:=0) hE25 rfl ?_
    intro M71 I71 hE71 hx71 hxI71 hb71
    have hr_71 : IntRow M71 .u8 s70_v (j_o26_35 ++ t21):=IntOwn.stays ho_s70 hb71
    show TT _ _ _ _ _ _ _ _ [(some b6,mobj .i64 [(1,.int .u8 1),(2,.int .u8 2),(3,.int .u8 3),(4,.int .u8 4),(5,.int .u8 6),(6,.int .u8 12),(10,.int .u8 24),(7,.int .u8 48),(9,.int .u8 49),(8,.int .u8 160)]),(some b1,.cells ((Der.ce a0 a0_3 a0_5 a0_6)) 27 (0,0))]
    obtain rfl:=Option.some.inj h69
    exact retF (rs:=[.tmp 2]) (vs:=[s70_v]) s70_v hE71 Tryd.func31 rfl rfl rfl (res_cons (ResV.tmp rfl) res_nil) hr_71
   by_cases c34 : (decide (255 < (t21.length : Int))) = true
   ·
    have h40:=ite_true c34 h36
    refine TT.cond_true (x:=sub [1,1,1,1,1,0,1,0,1,1,1,0] B31) (y:=sub [1,1,1,1,1,0,1,0,1,1,1,1] B31) rfl c34 ?_
    refine TT.rg [0,1,2,3,4,5,6,7,8] [kp,kp,kp,kp,kp,kp,(.alloc,none),kx,kp] rfl rfl ?_
    refine DL.mv 37 (s27_v) rfl rfl rfl ?_
    refine DL.mv 38 (.int .i64 (t21.length : Int)) rfl rfl rfl ?_
    refine DL.pu 39 (.int .i64 (ishr .i64 (t21.length : Int) 8)) rfl (p_shr (by decide) rfl rfl rfl) ?_
    obtain ⟨t41,e42,h43⟩:=nm_some h40
    refine DL.pu 40 (.int .u8 t41) rfl (by rw [e42]; exact p_conv ty_u3 ty_u5 ⟨_,rfl⟩ rfl rfl) ?_
    refine DL.mv 41 (.int .i64 (t21.length : Int)) rfl rfl rfl ?_
    refine DL.pu 42 (.int .u8 (IntKind.u8.wrap (t21.length : Int))) rfl (p_conv ty_u3 ty_u5 ⟨_,rfl⟩ rfl rfl) ?_
    refine DL.newSl (zs:=[130,t41,IntKind.u8.wrap (t21.length : Int)]) (n:=3) rfl (by decide) (i:=6) rfl (Wn.none rfl) rfl rfl rfl (f_buildSl (n:=3) (zs:=[130,t41,IntKind.u8.wrap (t21.length : Int)]) (vs:=[(0,.int .u8 130),(1,.int .u8 t41),(2,.int .u8 (IntKind.u8.wrap (t21.length : Int)))]) elem23 rfl rfl (by kernel_rfl) rfl (args_val2 rfl)) ?_
    intro s45_v s45_c ho_s45
    obtain ⟨g46,h47⟩:=req_some h43
    refine DL.appendI (fun s48_v s48_c => [(Value.ownBlock s45_v,.cells s45_c 5 (0,0)),(Value.ownBlock s48_v,.cells s48_c 5 (0,0)),(some b6,mobj .i64 [(1,.int .u8 1),(2,.int .u8 2),(3,.int .u8 3),(4,.int .u8 4),(5,.int .u8 6),(6,.int .u8 12),(10,.int .u8 24),(7,.int .u8 48),(9,.int .u8 49),(8,.int .u8 160)]),(some b1,.cells ((Der.ce a0 a0_3 a0_5 a0_6)) 27 (0,0))]) elem23 (j:=1) rfl ho_s27 g46 (by decide) (fun w hc => IntOwn.src (i:=0) ho_s45 hc rfl) (i:=7) rfl (Wn.none rfl) rfl rfl rfl rfl rfl rfl (fun _ _ => rfl) ?_
    intro s48_v s48_c ho_s48
    show DL _ _ _ _ _ _ _ _ _ _ _ _ [(Value.ownBlock s45_v,.cells s45_c 5 (0,0)),(Value.ownBlock s48_v,.cells s48_c 5 (0,0)),(some b6,mobj .i64 [(1,.int .u8 1),(2,.int .u8 2),(3,.int .u8 3),(4,.int .u8 4),(5,.int .u8 6),(6,.int .u8 12),(10,.int .u8 24),(7,.int .u8 48),(9,.int .u8 49),(8,.int .u8 160)]),(some b1,.cells ((Der.ce a0 a0_3 a0_5 a0_6)) 27 (0,0))]
    refine DL.pu 5 (s48_v) rfl (p_assign rfl rfl) ?_
    refine DL.nil ?_
    obtain rfl:=Option.some.inj h47
    exact TT.pick [1,2,3] (by decide) (TT.weak (J38 s48_v s48_c ho_s48) (Sub.cons rfl (Sub.cons rfl (Sub.nil _))))
   ·
    replace c34:=Bool.eq_false_iff.mpr c34
    have h49:=ite_false c34 h36
    refine TT.cond_false (x:=sub [1,1,1,1,1,0,1,0,1,1,1,0] B31) (y:=sub [1,1,1,1,1,0,1,0,1,1,1,1] B31) rfl c34 ?_
    refine TT.seq (x:=sub [1,1,1,1,1,0,1,0,1,1,1,1,0] B31) (y:=sub [1,1,1,1,1,0,1,0,1,1,1,1,1] B31) ?_
    refine TT.rg [0,1,2] [kp,kp,kp] rfl rfl ?_
    refine DL.mv 46 (.int .i64 (t21.length : Int)) rfl rfl rfl ?_
    refine DL.pu 47 (.bool (decide (127 < (t21.length : Int)))) rfl (p_gtr rfl rfl rfl) ?_
    refine DL.pu 45 (.bool (decide (127 < (t21.length : Int)))) rfl (p_assign rfl rfl) ?_
    refine DL.nil ?_
    obtain ⟨j_o26_51,h52,h53⟩:=bind_some h49
    have J54 : ∀ (j_o26_51_v : Value),∀ (j_o26_51_c : Array Value),IntOwn .u8 j_o26_51_v j_o26_51_c j_o26_51 → TT Tryd.prog 31 (PostF (G:=Value) (fun g => g) (fun g M_ => (IntRow M_ .u8 g r)) M w) 56 w I25 ((.inBlock 0 :: .code (sub [1,1,1,1,1,1] B31) :: [])) [(4,t21_v),(5,j_o26_51_v)] [(Value.ownBlock j_o26_51_v,.cells j_o26_51_c 5 (0,0)),(some b6,mobj .i64 [(1,.int .u8 1),(2,.int .u8 2),(3,.int .u8 3),(4,.int .u8 4),(5,.int .u8 6),(6,.int .u8 12),(10,.int .u8 24),(7,.int .u8 48),(9,.int .u8 49),(8,.int .u8 160)]),(some b1,.cells ((Der.ce a0 a0_3 a0_5 a0_6)) 27 (0,0))]:=by
     intro j_o26_51_v j_o26_51_c ho_j_o26_51
     obtain rfl:=Option.some.inj h53
     exact TT.weak (J38 j_o26_51_v j_o26_51_c ho_j_o26_51) (Sub.cons rfl (Sub.cons rfl (Sub.nil _)))
    by_cases c50 : (decide (127 < (t21.length : Int))) = true
    ·
     have h56:=ite_true c50 h52
     refine TT.cond_true (x:=sub [1,1,1,1,1,0,1,0,1,1,1,1,1,0] B31) (y:=sub [1,1,1,1,1,0,1,0,1,1,1,1,1,1] B31) rfl c50 ?_
     refine TT.rg [0,1,2,3,4,5] [kp,kp,kp,(.alloc,none),kx,kp] rfl rfl ?_
     refine DL.mv 48 (s27_v) rfl rfl rfl ?_
     refine DL.mv 49 (.int .i64 (t21.length : Int)) rfl rfl rfl ?_
     refine DL.pu 50 (.int .u8 (IntKind.u8.wrap (t21.length : Int))) rfl (p_conv ty_u3 ty_u5 ⟨_,rfl⟩ rfl rfl) ?_
     refine DL.newSl (zs:=[129,IntKind.u8.wrap (t21.length : Int)]) (n:=2) rfl (by decide) (i:=3) rfl (Wn.none rfl) rfl rfl rfl (f_buildSl (n:=2) (zs:=[129,IntKind.u8.wrap (t21.length : Int)]) (vs:=[(0,.int .u8 129),(1,.int .u8 (IntKind.u8.wrap (t21.length : Int)))]) elem23 rfl rfl (by kernel_rfl) rfl (args_val2 rfl)) ?_
     intro s58_v s58_c ho_s58
     obtain ⟨g59,h60⟩:=req_some h56
     refine DL.appendI (fun s61_v s61_c => [(Value.ownBlock s58_v,.cells s58_c 5 (0,0)),(Value.ownBlock s61_v,.cells s61_c 5 (0,0)),(some b6,mobj .i64 [(1,.int .u8 1),(2,.int .u8 2),(3,.int .u8 3),(4,.int .u8 4),(5,.int .u8 6),(6,.int .u8 12),(10,.int .u8 24),(7,.int .u8 48),(9,.int .u8 49),(8,.int .u8 160)]),(some b1,.cells ((Der.ce a0 a0_3 a0_5 a0_6)) 27 (0,0))]) elem23 (j:=1) rfl ho_s27 g59 (by decide) (fun w hc => IntOwn.src (i:=0) ho_s58 hc rfl) (i:=4) rfl (Wn.none rfl) rfl rfl rfl rfl rfl rfl (fun _ _ => rfl) ?_
     intro s61_v s61_c ho_s61
     show DL _ _ _ _ _ _ _ _ _ _ _ _ [(Value.ownBlock s58_v,.cells s58_c 5 (0,0)),(Value.ownBlock s61_v,.cells s61_c 5 (0,0)),(some b6,mobj .i64 [(1,.int .u8 1),(2,.int .u8 2),(3,.int .u8 3),(4,.int .u8 4),(5,.int .u8 6),(6,.int .u8 12),(10,.int .u8 24),(7,.int .u8 48),(9,.int .u8 49),(8,.int .u8 160)]),(some b1,.cells ((Der.ce a0 a0_3 a0_5 a0_6)) 27 (0,0))]
     refine DL.pu 5 (s61_v) rfl (p_assign rfl rfl) ?_
     refine DL.nil ?_
     obtain rfl:=Option.some.inj h60
     exact TT.pick [1,2,3] (by decide) (TT.weak (J54 s61_v s61_c ho_s61) (Sub.cons rfl (Sub.cons rfl (Sub.nil _))))
    ·
     replace c50:=Bool.eq_false_iff.mpr c50
     have h62:=ite_false c50 h52
     refine TT.cond_false (x:=sub [1,1,1,1,1,0,1,0,1,1,1,1,1,0] B31) (y:=sub [1,1,1,1,1,0,1,0,1,1,1,1,1,1] B31) rfl c50 ?_
     refine TT.rg [0,1,2,3,4,5] [kp,kp,kp,(.alloc,none),kx,kp] rfl rfl ?_
     refine DL.mv 25 (s27_v) rfl rfl rfl ?_
     refine DL.mv 26 (.int .i64 (t21.length : Int)) rfl rfl rfl ?_
     refine DL.pu 27 (.int .u8 (IntKind.u8.wrap (t21.length : Int))) rfl (p_conv ty_u3 ty_u5 ⟨_,rfl⟩ rfl rfl) ?_
     refine DL.newSl (zs:=[IntKind.u8.wrap (t21.length : Int)]) (n:=1) rfl (by decide) (i:=3) rfl (Wn.none rfl) rfl rfl rfl (f_buildSl (n:=1) (zs:=[IntKind.u8.wrap (t21.length : Int)]) (vs:=[(0,.int .u8 (IntKind.u8.wrap (t21.length : Int)))]) elem23 rfl rfl (by kernel_rfl) rfl (args_val2 rfl)) ?_
     intro s64_v s64_c ho_s64
     obtain ⟨g65,h66⟩:=req_some h62
     refine DL.appendI (fun s67_v s67_c => [(Value.ownBlock s64_v,.cells s64_c 5 (0,0)),(Value.ownBlock s67_v,.cells s67_c 5 (0,0)),(some b6,mobj .i64 [(1,.int .u8 1),(2,.int .u8 2),(3,.int .u8 3),(4,.int .u8 4),(5,.int .u8 6),(6,.int .u8 12),(10,.int .u8 24),(7,.int .u8 48),(9,.int .u8 49),(8,.int .u8 160)]),(some b1,.cells ((Der.ce a0 a0_3 a0_5 a0_6)) 27 (0,0))]) elem23 (j:=1) rfl ho_s27 g65 (by decide) (fun w hc => IntOwn.src (i:=0) ho_s64 hc rfl) (i:=4) rfl (Wn.none rfl) rfl rfl rfl rfl rfl rfl (fun _ _ => rfl) ?_
     intro s67_v s67_c ho_s67
     show DL _ _ _ _ _ _ _ _ _ _ _ _ [(Value.ownBlock s64_v,.cells s64_c 5 (0,0)),(Value.ownBlock s67_v,.cells s67_c 5 (0,0)),(some b6,mobj .i64 [(1,.int .u8 1),(2,.int .u8 2),(3,.int .u8 3),(4,.int .u8 4),(5,.int .u8 6),(6,.int .u8 12),(10,.int .u8 24),(7,.int .u8 48),(9,.int .u8 49),(8,.int .u8 160)]),(some b1,.cells ((Der.ce a0 a0_3 a0_5 a0_6)) 27 (0,0))]
     refine DL.pu 5 (s67_v) rfl (p_assign rfl rfl) ?_
     refine DL.nil ?_
     obtain rfl:=Option.some.inj h66
     exact TT.pick [1,2,3] (by decide) (TT.weak (J54 s67_v s67_c ho_s67) (Sub.cons rfl (Sub.cons rfl (Sub.nil _))))
 by_cases c10 : ((Der.kind a0) == 8) = true
 ·
  have h16:=ite_true c10 h12
  refine TT.cond_true (x:=sub [1,1,0,1,0] B31) (y:=sub [1,1,0,1,1] B31) rfl c10 ?_
  refine TT.rg [0,1,2,3,4,5] [kp,kp,kq,kp,kp,kp] rfl rfl ?_
  refine DL.mv 14 (.int .u8 t7) rfl rfl rfl ?_
  refine DL.pu 15 (ptr b1 2) rfl (p_fieldAddr ty_f27_2 rfl rfl) ?_
  refine DL.qu 16 (.int .i64 (Der.num a0)) rfl (f_load (j:=1) ty_a2 rfl rfl rfl rfl) ?_
  refine DL.pu 17 (.int .u8 (IntKind.u8.wrap (Der.num a0))) rfl (p_conv ty_u2 ty_u5 ⟨_,rfl⟩ rfl rfl) ?_
  obtain ⟨t17,e18,h19⟩:=nm_some h16
  refine DL.pu 18 (.int .u8 t17) rfl (by rw [e18]; exact p_add rfl rfl rfl) ?_
  refine DL.pu 3 (.int .u8 t17) rfl (p_assign rfl rfl) ?_
  refine DL.nil ?_
  obtain rfl:=Option.some.inj h19
  exact TT.weak (J14 ) (Sub.cons rfl (Sub.cons rfl (Sub.nil _)))
 ·
  replace c10:=Bool.eq_false_iff.mpr c10
  have h20:=ite_false c10 h12
  refine TT.cond_false (x:=sub [1,1,0,1,0] B31) (y:=sub [1,1,0,1,1] B31) rfl c10 ?_
  refine TT.skip ?_
  obtain rfl:=Option.some.inj h20
  exact TT.weak (J14 ) (Sub.cons rfl (Sub.cons rfl (Sub.nil _)))
def der_pack.f : Nat → Der → Option ((List Int))
 | 0,_ => none
 | k + 1,a0 => der_pack.F (der_pack.f k) a0
theorem der_pack.rec : ∀ k,der_pack.Rec (der_pack.f k):=by
 intro k
 induction k with
 | zero => intro _ _ _ _ _ h; simp [der_pack.f] at h
 | succ k ih => intro a0 a0_3 a0_5 a0_6 r h M w hM hr_a0_3 hr_a0_5 hr_a0_6; exact der_pack.okF ih h w hM hr_a0_3 hr_a0_5 hr_a0_6
theorem der_pack.ok {k : Nat} {a0 : Der} {a0_3 : Value} {a0_5 : Value} {a0_6 : Value} {r : List Int} (h : der_pack.f k a0 = some r) {M : Mem} (w : World) (hM : Ext M (heapOf w)) (hr_a0_3 : IntRow M .u8 a0_3 (Der.bytes a0)) (hr_a0_5 : IntRow M .u64 a0_5 (Der.arcs a0)) (hr_a0_6 : RowS ShDer M a0_6 (Tree.kids a0)) : Calls Tryd.prog 31 #[.agg (Der.ce a0 a0_3 a0_5 a0_6)] w (PostF (G:=Value) (fun g => g) (fun g M_ => (IntRow M_ .u8 g r)) M w) :=
 der_pack.rec k h w hM hr_a0_3 hr_a0_5 hr_a0_6

@[reducible] def ref13_Pack.Rec (r_ : Der → Option ((List Int))) : Prop:=∀ {a0 : Der} {a0_3 : Value} {a0_5 : Value} {a0_6 : Value} {r : List Int},r_ a0 = some r → ∀ {M : Mem} (w : World) (hM : Ext M (heapOf w)) (hr_a0_3 : IntRow M .u8 a0_3 (Der.bytes a0)) (hr_a0_5 : IntRow M .u64 a0_5 (Der.arcs a0)) (hr_a0_6 : RowS ShDer M a0_6 (Tree.kids a0)),Calls Tryd.prog 32 #[.agg (Der.ce a0 a0_3 a0_5 a0_6)] w ((PostF (G:=Value) (fun g => g) (fun g M_ => (IntRow M_ .u8 g r)) M w))

end Go.Proofs.YtjhknfpociahoaaDoor
