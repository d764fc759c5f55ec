import Derived.Test.YthldgjbmjgjogaaGreatDoorSc4
namespace Go.Proofs.YthldgjbmjgjogaaGreatDoor
open Go Go.HW Go.RowKit
set_option linter.unusedVariables false
set_option linter.unusedSimpArgs false

theorem ty_u34 (w : World) : (underlying 34).run Tryz.prog w = .ok (.slice 3) w:=by kernel_rfl
theorem ty_s3 (w : World) : (sizeOf 3).run Tryz.prog w = .ok 1 w:=by kernel_rfl
theorem enter95 (args : Array Value) (w : World) : (callFunc 95 args).run Tryz.prog w = .ok (.enter 95 args) w:=by kernel_rfl
theorem enter97 (args : Array Value) (w : World) : (callFunc 97 args).run Tryz.prog w = .ok (.enter 97 args) w:=by kernel_rfl
theorem enter116 (args : Array Value) (w : World) : (callFunc 116 args).run Tryz.prog w = .ok (.enter 116 args) w:=by kernel_rfl
theorem ty_f36_9 (a : Addr) (w : World) : (Instr.fieldAt 36 (.pointer (some a)) 9).run Tryz.prog w = .ok (.pointer (some (a.add 109))) w:=by kernel_rfl
theorem ty_f36_8 (a : Addr) (w : World) : (Instr.fieldAt 36 (.pointer (some a)) 8).run Tryz.prog w = .ok (.pointer (some (a.add 70))) w:=by kernel_rfl
theorem ty_f36_10 (a : Addr) (w : World) : (Instr.fieldAt 36 (.pointer (some a)) 10).run Tryz.prog w = .ok (.pointer (some (a.add 110))) w:=by kernel_rfl
theorem ty_a34 (w : World) : (isAgg 34).run Tryz.prog w = .ok false w:=by kernel_rfl
theorem ty_f36_0 (a : Addr) (w : World) : (Instr.fieldAt 36 (.pointer (some a)) 0).run Tryz.prog w = .ok (.pointer (some (a.add 0))) w:=by kernel_rfl
theorem ty_a23 (w : World) : (isAgg 23).run Tryz.prog w = .ok false w:=by kernel_rfl
theorem ty_f36_1 (a : Addr) (w : World) : (Instr.fieldAt 36 (.pointer (some a)) 1).run Tryz.prog w = .ok (.pointer (some (a.add 1))) w:=by kernel_rfl
theorem ty_f36_2 (a : Addr) (w : World) : (Instr.fieldAt 36 (.pointer (some a)) 2).run Tryz.prog w = .ok (.pointer (some (a.add 2))) w:=by kernel_rfl
theorem ty_f36_3 (a : Addr) (w : World) : (Instr.fieldAt 36 (.pointer (some a)) 3).run Tryz.prog w = .ok (.pointer (some (a.add 3))) w:=by kernel_rfl
theorem ty_f36_4 (a : Addr) (w : World) : (Instr.fieldAt 36 (.pointer (some a)) 4).run Tryz.prog w = .ok (.pointer (some (a.add 4))) w:=by kernel_rfl
theorem ty_f36_5 (a : Addr) (w : World) : (Instr.fieldAt 36 (.pointer (some a)) 5).run Tryz.prog w = .ok (.pointer (some (a.add 5))) w:=by kernel_rfl
theorem ty_f36_6 (a : Addr) (w : World) : (Instr.fieldAt 36 (.pointer (some a)) 6).run Tryz.prog w = .ok (.pointer (some (a.add 6))) w:=by kernel_rfl
theorem ty_f36_7 (a : Addr) (w : World) : (Instr.fieldAt 36 (.pointer (some a)) 7).run Tryz.prog w = .ok (.pointer (some (a.add 38))) w:=by kernel_rfl
theorem ty_u5 (w : World) : (underlying 5).run Tryz.prog w = .ok (.int .u8) w:=by kernel_rfl
theorem enter100 (args : Array Value) (w : World) : (callFunc 100 args).run Tryz.prog w = .ok (.enter 100 args) w:=by kernel_rfl
theorem ty_z36 (w : World) : (zeroValue 36).run Tryz.prog w = .ok (.agg (Act.ce (Act.mk 0 0 0 0 0 0 z0 z0 zC z0 z0) nS nS nS)) w:=by kernel_rfl
theorem ty_s36 (w : World) : (sizeOf 36).run Tryz.prog w = .ok 111 w:=by kernel_rfl
theorem ty_z4 (w : World) : (zeroValue 4).run Tryz.prog w = .ok (.bool false) w:=by kernel_rfl
theorem ty_s4 (w : World) : (sizeOf 4).run Tryz.prog w = .ok 1 w:=by kernel_rfl
theorem enter94 (args : Array Value) (w : World) : (callFunc 94 args).run Tryz.prog w = .ok (.enter 94 args) w:=by kernel_rfl
theorem ty_a36 (w : World) : (isAgg 36).run Tryz.prog w = .ok true w:=by kernel_rfl
theorem ty_a4 (w : World) : (isAgg 4).run Tryz.prog w = .ok false w:=by kernel_rfl
theorem enter54 (args : Array Value) (w : World) : (callFunc 54 args).run Tryz.prog w = .ok (.enter 54 args) w:=by kernel_rfl
theorem ty_s24 (w : World) : (sizeOf 24).run Tryz.prog w = .ok 1 w:=by kernel_rfl
theorem ty_s34 (w : World) : (sizeOf 34).run Tryz.prog w = .ok 1 w:=by kernel_rfl
theorem enter96 (args : Array Value) (w : World) : (callFunc 96 args).run Tryz.prog w = .ok (.enter 96 args) w:=by kernel_rfl
theorem enter34 (args : Array Value) (w : World) : (callFunc 34 args).run Tryz.prog w = .ok (.enter 34 args) w:=by kernel_rfl
theorem ty_z86 (w : World) : (zeroValue 86).run Tryz.prog w = .ok (.agg #[str zU,str zU]) w:=by kernel_rfl
theorem ty_s86 (w : World) : (sizeOf 86).run Tryz.prog w = .ok 2 w:=by kernel_rfl
theorem ty_f86_0 (a : Addr) (w : World) : (Instr.fieldAt 86 (.pointer (some a)) 0).run Tryz.prog w = .ok (.pointer (some (a.add 0))) w:=by kernel_rfl
theorem ty_f86_1 (a : Addr) (w : World) : (Instr.fieldAt 86 (.pointer (some a)) 1).run Tryz.prog w = .ok (.pointer (some (a.add 1))) w:=by kernel_rfl
theorem enter55 (args : Array Value) (w : World) : (callFunc 55 args).run Tryz.prog w = .ok (.enter 55 args) w:=by kernel_rfl
theorem enter60 (args : Array Value) (w : World) : (callFunc 60 args).run Tryz.prog w = .ok (.enter 60 args) w:=by kernel_rfl
theorem enter61 (args : Array Value) (w : World) : (callFunc 61 args).run Tryz.prog w = .ok (.enter 61 args) w:=by kernel_rfl
theorem enter19 (args : Array Value) (w : World) : (callFunc 19 args).run Tryz.prog w = .ok (.enter 19 args) w:=by kernel_rfl
theorem enter37 (args : Array Value) (w : World) : (callFunc 37 args).run Tryz.prog w = .ok (.enter 37 args) w:=by kernel_rfl

/-! ### slices.Equal[[]int,int]: function 100 -/
noncomputable def B100 : Code:=bodyOf Tryz.f100
def slices_Equal_100.L0 (a0 : List Int) (a1 : List Int) : Nat → Int → Option ((Unit) ⊕ (Bool))
 | 0,_ => none
 | k + 1,x13_4 => if (decide (x13_4 < (a0.length : Int))) = true then (req (0 ≤ x13_4) (req (x13_4 < (a0.length : Int)) (req (x13_4 < (a1.length : Int)) (nm ((a0.getD x13_4.toNat 0) != (a1.getD x13_4.toNat 0)) fun t80 => if t80 = true then (some (.inr false)) else (slices_Equal_100.L0 a0 a1 k (IntKind.i64.wrap (x13_4 + 1))))))) else (some (.inl ()))
set_option maxRecDepth 20000 in
theorem slices_Equal_100.L0_ok (a0 : List Int) (a0_v : Value) (a1 : List Int) (a1_v : Value) {r : Bool}  {w0 : World} {M0 M I : Mem} {K : List Item} (hE : Env w0 M0 M I) (hr_a0 : IntRow M .i64 a0_v a0) (hr_a1 : IntRow M .i64 a1_v a1) :
  ∀ (k : Nat) (x13_4 : Int) (q : (Unit) ⊕ (Bool)) (h : slices_Equal_100.L0 a0 a1 k x13_4 = some q) (hk : match (generalizing:=false) q with | .inl () => (TT Tryz.prog 100 (Post (fun u => u = .bool r) w0) 26 w0 I K [] []) | .inr rq => rq = r),
   TT Tryz.prog 100 (Post (fun u => u = .bool r) w0) 26 w0 I (.code (sub [1,1,0,1,0,0] B100) :: .inLoop (sub [1,1,0,1,0,0] B100) :: .inBlock 0 :: K) [(0,a0_v),(1,a1_v),(12,.int .i64 (a0.length : Int)),(13,.int .i64 x13_4)] []:=by
 intro k
 induction k with
 | zero => intro x13_4 q h; simp [slices_Equal_100.L0] at h
 | succ k ih =>
  intro x13_4 q h hk
  unfold slices_Equal_100.L0 at h
  refine TT.sq rfl ?_
  refine TT.rg [0] [kp] rfl rfl ?_
  refine DL.pu 14 (.bool (decide (x13_4 < (a0.length : Int)))) rfl (p_lss rfl rfl rfl) ?_
  refine DL.nil ?_
  refine TT.sq rfl ?_
  by_cases c71 : (decide (x13_4 < (a0.length : Int))) = true
  ·
   have h72:=ite_true c71 h
   refine TT.ct rfl rfl c71 ?_
   refine TT.skip ?_
   refine TT.sq rfl ?_
   refine TT.bk rfl ?_
   refine TT.sq rfl ?_
   refine TT.rg [0,1] [kp,kp] rfl rfl ?_
   refine DL.mv 15 (.int .i64 x13_4) rfl rfl rfl ?_
   refine DL.pu 5 (.int .i64 x13_4) rfl (p_assign rfl rfl) ?_
   refine DL.nil ?_
   refine TT.sq rfl ?_
   refine TT.rgD [0,1,2,3,4,5,6,7,8] [0,0,3,7,0,0,48,112,255] [kp,kp,kp,kp,kp,kp,kp,kp,kp] rfl mixed (by kernel_rfl) ?_
   intro w73 hl73 hj73 hz73
   refine DL.mv 16 (a0_v) rfl rfl rfl ?_
   refine DL.mv 17 (.int .i64 x13_4) rfl rfl rfl ?_
   obtain ⟨g74,h75⟩:=req_some h72
   obtain ⟨g76,h77⟩:=req_some h75
   refine DL.pu 18 (elp a0_v x13_4.toNat) rfl (p_slIx1 ty_u34 ty_s3 (RowV.some hr_a0 g74 g76) g74 g76 rfl rfl rfl) ?_
   refine DL.imm (v:=.int .i64 (a0.getD x13_4.toNat 0)) rfl (Wn.none rfl) rfl rfl rfl (i_loadEl (RowV.mono hr_a0 hE.mi) (encl_get .i64 (lt_len g74 g76)) ty_a3 rfl rfl) ?_
   refine DL.mv 20 (a1_v) rfl rfl rfl ?_
   refine DL.mv 21 (.int .i64 x13_4) rfl rfl rfl ?_
   obtain ⟨g78,h79⟩:=req_some h77
   refine DL.pu 22 (elp a1_v x13_4.toNat) rfl (p_slIx1 ty_u34 ty_s3 (RowV.some hr_a1 g74 g78) g74 g78 rfl rfl rfl) ?_
   refine DL.imm (v:=.int .i64 (a1.getD x13_4.toNat 0)) rfl (Wn.none rfl) rfl rfl rfl (i_loadEl (RowV.mono hr_a1 hE.mi) (encl_get .i64 (lt_len g74 g78)) ty_a3 rfl rfl) ?_
   obtain ⟨t80,e81,h82⟩:=nm_some h79
   refine DL.pu 24 (.bool t80) rfl (by rw [e81]; exact p_neq rfl rfl rfl) ?_
   refine DL.nil' hl73 ?_
   by_cases c83 : t80 = true
   ·
    have h84:=ite_true c83 h82
    refine TT.ct rfl rfl c83 ?_
    refine TT.sq rfl ?_
    refine TT.rg [0] [kp] rfl rfl ?_
    refine DL.pu 4 (.bool false) rfl (p_assign rfl rfl) ?_
    refine DL.nil ?_
    obtain rfl:=Option.some.inj h84
    have k85 : false = r:=hk
    subst k85
    exact retnE (rs:=[.tmp 4]) (vs:=[.bool false]) hE.base Tryz.func100 rfl rfl rfl (res_cons (ResV.tmp rfl) res_nil) rfl
   ·
    replace c83:=Bool.eq_false_iff.mpr c83
    have h86:=ite_false c83 h82
    refine TT.cf rfl rfl c83 ?_
    refine TT.skip ?_
    refine TT.inBlock ?_
    refine TT.rg [0,1] [kp,kp] rfl rfl ?_
    refine DL.pu 25 (.int .i64 (IntKind.i64.wrap (x13_4 + 1))) rfl (p_add rfl rfl rfl) ?_
    refine DL.mv 13 (.int .i64 (IntKind.i64.wrap (x13_4 + 1))) rfl rfl rfl ?_
    refine DL.nil ?_
    refine TT.inLoop ?_
    exact TT.weak (ih (IntKind.i64.wrap (x13_4 + 1)) _ h86 hk) (Sub.cons rfl (Sub.cons rfl (Sub.cons rfl (Sub.cons rfl (Sub.nil _)))))
  ·
   replace c71:=Bool.eq_false_iff.mpr c71
   have h87:=ite_false c71 h
   refine TT.cf rfl rfl c71 ?_
   refine TT.exit rfl ?_
   obtain rfl:=Option.some.inj h87
   exact TT.weak (hk) (Sub.nil _)

def slices_Equal_100.f (a0 : List Int) (a1 : List Int) : Option (Bool):=if ((a0.length : Int) != (a1.length : Int)) = true then (some false) else (onw (slices_Equal_100.L0 a0 a1 ((a0.length : Int).toNat + 1) 0) (fun _ => some true) (fun r => some r))
set_option maxRecDepth 20000 in
theorem slices_Equal_100.ok {a0 : List Int} {a1 : List Int} {a0_v : Value} {a1_v : Value} {r : Bool} (h : slices_Equal_100.f a0 a1 = some r) {M : Mem} (w : World) (hM : Ext M (heapOf w)) (hr_a0 : IntRow M .i64 a0_v a0) (hr_a1 : IntRow M .i64 a1_v a1) : Calls Tryz.prog 100 #[a0_v,a1_v] w (Post (fun u => u = .bool r) w):=by
 unfold slices_Equal_100.f at h
 have hE:=Env.start hM
 refine calls_of_TT (N:=26) (S:=[(0,a0_v),(1,a1_v)]) (c:=B100) Tryz.func100 rfl rfl rfl (by simp) ?_
 show TT _ _ _ _ _ _ [.code (sub [] B100)] _ _
 refine TT.sq rfl ?_
 refine TT.rg [0] [kp] rfl rfl ?_
 refine DL.pu 4 (.bool false) rfl (p_assign rfl rfl) ?_
 refine DL.nil ?_
 refine TT.sq rfl ?_
 refine TT.sq rfl ?_
 refine TT.rg [0,1,2,3,4] [kp,kp,kp,kp,kp] rfl rfl ?_
 refine DL.mv 6 (a0_v) rfl rfl rfl ?_
 refine DL.pu 7 (.int .i64 (a0.length : Int)) rfl (p_slLen ty_u34 (RowV.sl hr_a0) rfl rfl) ?_
 refine DL.mv 8 (a1_v) rfl rfl rfl ?_
 refine DL.pu 9 (.int .i64 (a1.length : Int)) rfl (p_slLen ty_u34 (RowV.sl hr_a1) rfl rfl) ?_
 refine DL.pu 10 (.bool ((a0.length : Int) != (a1.length : Int))) rfl (p_neq rfl rfl rfl) ?_
 refine DL.nil ?_
 by_cases c1 : ((a0.length : Int) != (a1.length : Int)) = true
 ·
  have h2:=ite_true c1 h
  refine TT.ct rfl rfl c1 ?_
  refine TT.sq rfl ?_
  refine TT.rg [0] [kp] rfl rfl ?_
  refine DL.pu 4 (.bool false) rfl (p_assign rfl rfl) ?_
  refine DL.nil ?_
  obtain rfl:=Option.some.inj h2
  exact retnE (rs:=[.tmp 4]) (vs:=[.bool false]) hE.base Tryz.func100 rfl rfl rfl (res_cons (ResV.tmp rfl) res_nil) rfl
 ·
  replace c1:=Bool.eq_false_iff.mpr c1
  have h3:=ite_false c1 h
  refine TT.cf rfl rfl c1 ?_
  refine TT.skip ?_
  refine TT.sq rfl ?_
  refine TT.sq rfl ?_
  refine TT.rg [0,1,2] [kp,kp,kp] rfl rfl ?_
  refine DL.mv 11 (a0_v) rfl rfl rfl ?_
  refine DL.pu 12 (.int .i64 (a0.length : Int)) rfl (p_slLen ty_u34 (RowV.sl hr_a0) rfl rfl) ?_
  refine DL.mv 13 (.int .i64 0) rfl rfl rfl ?_
  refine DL.nil ?_
  refine TT.bk rfl ?_
  refine TT.lp rfl ?_
  rcases onw_some h3 with ⟨_,h88,h89⟩ | ⟨r91,h88,h89⟩
  ·
   refine TT.weak (slices_Equal_100.L0_ok a0 a0_v a1 a1_v hE hr_a0 hr_a1 ((a0.length : Int).toNat + 1) 0 (.inl ()) h88 (?_)) (Sub.cons rfl (Sub.cons rfl (Sub.cons rfl (Sub.cons rfl (Sub.nil _)))))
   show TT _ _ _ _ _ _ _ _ _
   refine TT.sq rfl ?_
   refine TT.rg [0] [kp] rfl rfl ?_
   refine DL.pu 4 (.bool true) rfl (p_assign rfl rfl) ?_
   refine DL.nil ?_
   obtain rfl:=Option.some.inj h89
   exact retnE (rs:=[.tmp 4]) (vs:=[.bool true]) hE.base Tryz.func100 rfl rfl rfl (res_cons (ResV.tmp rfl) res_nil) rfl
  ·
   obtain rfl:=Option.some.inj h89
   exact TT.weak (slices_Equal_100.L0_ok a0 a0_v a1 a1_v hE hr_a0 hr_a1 ((a0.length : Int).toNat + 1) 0 (.inr r91) h88 rfl) (Sub.cons rfl (Sub.cons rfl (Sub.cons rfl (Sub.cons rfl (Sub.nil _)))))
theorem slices_Equal_100.val {a0 : List Int} {a1 : List Int} {a0_v : Value} {a1_v : Value} {r : Bool} (h : slices_Equal_100.f a0 a1 = some r) {M : Mem} (w : World) (hM : Ext M (heapOf w)) (hr_a0 : IntRow M .i64 a0_v a0) (hr_a1 : IntRow M .i64 a1_v a1) : Calls Tryz.prog 100 #[a0_v,a1_v] w fun e w' => e = .returned (.bool r) ∧ Below w.heap.size w w' :=
 calls_value (slices_Equal_100.ok h w hM hr_a0 hr_a1)

/-! ### escutcheon/script.bare$2: function 97 -/
noncomputable def B97 : Code:=bodyOf Tryz.f97
def script_bare_2.f (a0 : Int) : Option (Bool):=(script_within.f a0 (-1000000) 1000000).bind fun t1 => some (!t1)
set_option maxRecDepth 20000 in
theorem script_bare_2.ok {a0 : Int} {r : Bool} (h : script_bare_2.f a0 = some r) {M : Mem} (w : World) (hM : Ext M (heapOf w)) : Calls Tryz.prog 97 #[.int .i64 a0] w (Post (fun u => u = .bool r) w):=by
 unfold script_bare_2.f at h
 have hE:=Env.start hM
 refine calls_of_TT (N:=6) (S:=[(0,.int .i64 a0)]) (c:=B97) Tryz.func97 rfl rfl rfl (by simp) ?_
 show TT _ _ _ _ _ _ [.code (sub [] B97)] _ _
 refine TT.sq rfl ?_
 refine TT.rg [0] [kp] rfl rfl ?_
 refine DL.pu 2 (.bool false) rfl (p_assign rfl rfl) ?_
 refine DL.nil ?_
 refine TT.sq rfl ?_
 refine TT.rg [0,1,2,3] [kp,kq,kp,kp] rfl rfl ?_
 refine DL.mv 3 (.int .i64 a0) rfl rfl rfl ?_
 obtain ⟨t1,h2,h3⟩:=bind_some h
 refine DL.qu 4 (.bool t1) rfl (f_callR rfl rfl (args_val (vs:=[.int .i64 a0,.int .i64 (-1000000),.int .i64 1000000]) rfl) (fun w => enter95 _ w) (fun w hc => script_within.val h2 (M:=M) w (hE.ext hc) )) ?_
 refine DL.pu 5 (.bool (!t1)) rfl (p_not rfl rfl) ?_
 refine DL.pu 2 (.bool (!t1)) rfl (p_assign rfl rfl) ?_
 refine DL.nil ?_
 obtain rfl:=Option.some.inj h3
 exact retnE (rs:=[.tmp 2]) (vs:=[.bool (!t1)]) hE.base Tryz.func97 rfl rfl rfl (res_cons (ResV.tmp rfl) res_nil) rfl
theorem script_bare_2.val {a0 : Int} {r : Bool} (h : script_bare_2.f a0 = some r) {M : Mem} (w : World) (hM : Ext M (heapOf w)) : Calls Tryz.prog 97 #[.int .i64 a0] w fun e w' => e = .returned (.bool r) ∧ Below w.heap.size w w' :=
 calls_value (script_bare_2.ok h w hM)

/-! ### slices.IndexFunc[[]int,int]: function 116 -/
noncomputable def B116 : Code:=bodyOf Tryz.f116
def idx97.L0 (a0 : List Int) : Nat → Int → Option ((Unit) ⊕ (Int))
 | 0,_ => none
 | k + 1,x8_1 => if (decide (x8_1 < (a0.length : Int))) = true then (req (0 ≤ x8_1) (req (x8_1 < (a0.length : Int)) ((script_bare_2.f (a0.getD x8_1.toNat 0)).bind fun t71 => if t71 = true then (some (.inr x8_1)) else (idx97.L0 a0 k (IntKind.i64.wrap (x8_1 + 1)))))) else (some (.inl ()))
set_option maxRecDepth 20000 in
theorem idx97.L0_ok (a0 : List Int) (a0_v : Value) {r : Int}  {w0 : World} {M0 M I : Mem} {K : List Item} (hE : Env w0 M0 M I) (hr_a0 : IntRow M .i64 a0_v a0) :
  ∀ (k : Nat) (x8_1 : Int) (q : (Unit) ⊕ (Int)) (h : idx97.L0 a0 k x8_1 = some q) (hk : match (generalizing:=false) q with | .inl () => (TT Tryz.prog 116 (Post (fun u => u = .int .i64 r) w0) 19 w0 I K [] []) | .inr rq => rq = r),
   TT Tryz.prog 116 (Post (fun u => u = .int .i64 r) w0) 19 w0 I (.code (sub [1,0,1,0,0] B116) :: .inLoop (sub [1,0,1,0,0] B116) :: .inBlock 0 :: K) [(0,a0_v),(1,.func (.func 97) #[] #[]),(7,.int .i64 (a0.length : Int)),(8,.int .i64 x8_1)] []:=by
 intro k
 induction k with
 | zero => intro x8_1 q h; simp [idx97.L0] at h
 | succ k ih =>
  intro x8_1 q h hk
  unfold idx97.L0 at h
  refine TT.sq rfl ?_
  refine TT.rg [0] [kp] rfl rfl ?_
  refine DL.pu 9 (.bool (decide (x8_1 < (a0.length : Int)))) rfl (p_lss rfl rfl rfl) ?_
  refine DL.nil ?_
  refine TT.sq rfl ?_
  by_cases c65 : (decide (x8_1 < (a0.length : Int))) = true
  ·
   have h66:=ite_true c65 h
   refine TT.ct rfl rfl c65 ?_
   refine TT.skip ?_
   refine TT.sq rfl ?_
   refine TT.bk rfl ?_
   refine TT.sq rfl ?_
   refine TT.rg [0,1] [kp,kp] rfl rfl ?_
   refine DL.mv 10 (.int .i64 x8_1) rfl rfl rfl ?_
   refine DL.pu 5 (.int .i64 x8_1) rfl (p_assign rfl rfl) ?_
   refine DL.nil ?_
   refine TT.sq rfl ?_
   refine TT.rg [0,1,2,3,4,5] [kp,kp,kp,kp,kp,kq] rfl rfl ?_
   refine DL.mv 11 (.func (.func 97) #[] #[]) rfl rfl rfl ?_
   refine DL.mv 12 (a0_v) rfl rfl rfl ?_
   refine DL.mv 13 (.int .i64 x8_1) rfl rfl rfl ?_
   obtain ⟨g67,h68⟩:=req_some h66
   obtain ⟨g69,h70⟩:=req_some h68
   refine DL.pu 14 (elp a0_v x8_1.toNat) rfl (p_slIx1 ty_u34 ty_s3 (RowV.some hr_a0 g67 g69) g67 g69 rfl rfl rfl) ?_
   refine DL.imm (v:=.int .i64 (a0.getD x8_1.toNat 0)) rfl (Wn.none rfl) rfl rfl rfl (i_loadEl (RowV.mono hr_a0 hE.mi) (encl_get .i64 (lt_len g67 g69)) ty_a3 rfl rfl) ?_
   obtain ⟨t71,h72,h73⟩:=bind_some h70
   refine DL.qu 16 (.bool t71) rfl (f_callV (by simp) rfl rfl rfl (args_val (vs:=[.int .i64 (a0.getD x8_1.toNat 0)]) rfl) (fun w => enter97 _ w) (fun w hc => script_bare_2.val h72 (M:=M) w (hE.ext hc) )) ?_
   refine DL.nil ?_
   by_cases c74 : t71 = true
   ·
    have h75:=ite_true c74 h73
    refine TT.ct rfl rfl c74 ?_
    refine TT.sq rfl ?_
    refine TT.rg [0,1] [kp,kp] rfl rfl ?_
    refine DL.mv 17 (.int .i64 x8_1) rfl rfl rfl ?_
    refine DL.pu 4 (.int .i64 x8_1) rfl (p_assign rfl rfl) ?_
    refine DL.nil ?_
    obtain rfl:=Option.some.inj h75
    have k76 : x8_1 = r:=hk
    subst k76
    exact retnE (rs:=[.tmp 4]) (vs:=[.int .i64 x8_1]) hE.base Tryz.func116 rfl rfl rfl (res_cons (ResV.tmp rfl) res_nil) rfl
   ·
    replace c74:=Bool.eq_false_iff.mpr c74
    have h77:=ite_false c74 h73
    refine TT.cf rfl rfl c74 ?_
    refine TT.skip ?_
    refine TT.inBlock ?_
    refine TT.rg [0,1] [kp,kp] rfl rfl ?_
    refine DL.pu 18 (.int .i64 (IntKind.i64.wrap (x8_1 + 1))) rfl (p_add rfl rfl rfl) ?_
    refine DL.mv 8 (.int .i64 (IntKind.i64.wrap (x8_1 + 1))) rfl rfl rfl ?_
    refine DL.nil ?_
    refine TT.inLoop ?_
    exact TT.weak (ih (IntKind.i64.wrap (x8_1 + 1)) _ h77 hk) (Sub.cons rfl (Sub.cons rfl (Sub.cons rfl (Sub.cons rfl (Sub.nil _)))))
  ·
   replace c65:=Bool.eq_false_iff.mpr c65
   have h78:=ite_false c65 h
   refine TT.cf rfl rfl c65 ?_
   refine TT.exit rfl ?_
   obtain rfl:=Option.some.inj h78
   exact TT.weak (hk) (Sub.nil _)

def idx97.f (a0 : List Int) : Option (Int):=onw (idx97.L0 a0 ((a0.length : Int).toNat + 1) 0) (fun _ => some (-1)) (fun r => some r)
set_option maxRecDepth 20000 in
theorem idx97.ok {a0 : List Int} {a0_v : Value} {r : Int} (h : idx97.f a0 = some r) {M : Mem} (w : World) (hM : Ext M (heapOf w)) (hr_a0 : IntRow M .i64 a0_v a0) : Calls Tryz.prog 116 #[a0_v,.func (.func 97) #[] #[]] w (Post (fun u => u = .int .i64 r) w):=by
 unfold idx97.f at h
 have hE:=Env.start hM
 refine calls_of_TT (N:=19) (S:=[(0,a0_v),(1,.func (.func 97) #[] #[])]) (c:=B116) Tryz.func116 rfl rfl rfl (by simp) ?_
 show TT _ _ _ _ _ _ [.code (sub [] B116)] _ _
 refine TT.sq rfl ?_
 refine TT.rg [0] [kp] rfl rfl ?_
 refine DL.pu 4 (.int .i64 0) rfl (p_assign rfl rfl) ?_
 refine DL.nil ?_
 refine TT.sq rfl ?_
 refine TT.sq rfl ?_
 refine TT.rg [0,1,2] [kp,kp,kp] rfl rfl ?_
 refine DL.mv 6 (a0_v) rfl rfl rfl ?_
 refine DL.pu 7 (.int .i64 (a0.length : Int)) rfl (p_slLen ty_u34 (RowV.sl hr_a0) rfl rfl) ?_
 refine DL.mv 8 (.int .i64 0) rfl rfl rfl ?_
 refine DL.nil ?_
 refine TT.bk rfl ?_
 refine TT.lp rfl ?_
 rcases onw_some h with ⟨_,h79,h80⟩ | ⟨r82,h79,h80⟩
 ·
  refine TT.weak (idx97.L0_ok a0 a0_v hE hr_a0 ((a0.length : Int).toNat + 1) 0 (.inl ()) h79 (?_)) (Sub.cons rfl (Sub.cons rfl (Sub.cons rfl (Sub.cons rfl (Sub.nil _)))))
  show TT _ _ _ _ _ _ _ _ _
  refine TT.sq rfl ?_
  refine TT.rg [0] [kp] rfl rfl ?_
  refine DL.pu 4 (.int .i64 (-1)) rfl (p_assign rfl rfl) ?_
  refine DL.nil ?_
  obtain rfl:=Option.some.inj h80
  exact retnE (rs:=[.tmp 4]) (vs:=[.int .i64 (-1)]) hE.base Tryz.func116 rfl rfl rfl (res_cons (ResV.tmp rfl) res_nil) rfl
 ·
  obtain rfl:=Option.some.inj h80
  exact TT.weak (idx97.L0_ok a0 a0_v hE hr_a0 ((a0.length : Int).toNat + 1) 0 (.inr r82) h79 rfl) (Sub.cons rfl (Sub.cons rfl (Sub.cons rfl (Sub.cons rfl (Sub.nil _)))))
theorem idx97.val {a0 : List Int} {a0_v : Value} {r : Int} (h : idx97.f a0 = some r) {M : Mem} (w : World) (hM : Ext M (heapOf w)) (hr_a0 : IntRow M .i64 a0_v a0) : Calls Tryz.prog 116 #[a0_v,.func (.func 97) #[] #[]] w fun e w' => e = .returned (.int .i64 r) ∧ Below w.heap.size w w' :=
 calls_value (idx97.ok h w hM hr_a0)

/-! ### slices.ContainsFunc[[]int,int]: function 96 -/
noncomputable def B96 : Code:=bodyOf Tryz.f96
def cont97.f (a0 : List Int) : Option (Bool):=(idx97.f a0).bind fun t1 => some (decide (0 ≤ t1))
set_option maxRecDepth 20000 in
theorem cont97.ok {a0 : List Int} {a0_v : Value} {r : Bool} (h : cont97.f a0 = some r) {M : Mem} (w : World) (hM : Ext M (heapOf w)) (hr_a0 : IntRow M .i64 a0_v a0) : Calls Tryz.prog 96 #[a0_v,.func (.func 97) #[] #[]] w (Post (fun u => u = .bool r) w):=by
 unfold cont97.f at h
 have hE:=Env.start hM
 refine calls_of_TT (N:=9) (S:=[(0,a0_v),(1,.func (.func 97) #[] #[])]) (c:=B96) Tryz.func96 rfl rfl rfl (by simp) ?_
 show TT _ _ _ _ _ _ [.code (sub [] B96)] _ _
 refine TT.sq rfl ?_
 refine TT.rg [0] [kp] rfl rfl ?_
 refine DL.pu 4 (.bool false) rfl (p_assign rfl rfl) ?_
 refine DL.nil ?_
 refine TT.sq rfl ?_
 refine TT.rg [0,1,2,3,4] [kp,kp,kq,kp,kp] rfl rfl ?_
 refine DL.mv 5 (a0_v) rfl rfl rfl ?_
 refine DL.mv 6 (.func (.func 97) #[] #[]) rfl rfl rfl ?_
 obtain ⟨t1,h2,h3⟩:=bind_some h
 refine DL.qu 7 (.int .i64 t1) rfl (f_callR rfl rfl (args_val (vs:=[a0_v,.func (.func 97) #[] #[]]) rfl) (fun w => enter116 _ w) (fun w hc => idx97.val h2 (M:=M) w (hE.ext hc) hr_a0)) ?_
 refine DL.pu 8 (.bool (decide (0 ≤ t1))) rfl (p_geq rfl rfl rfl) ?_
 refine DL.pu 4 (.bool (decide (0 ≤ t1))) rfl (p_assign rfl rfl) ?_
 refine DL.nil ?_
 obtain rfl:=Option.some.inj h3
 exact retnE (rs:=[.tmp 4]) (vs:=[.bool (decide (0 ≤ t1))]) hE.base Tryz.func96 rfl rfl rfl (res_cons (ResV.tmp rfl) res_nil) rfl
theorem cont97.val {a0 : List Int} {a0_v : Value} {r : Bool} (h : cont97.f a0 = some r) {M : Mem} (w : World) (hM : Ext M (heapOf w)) (hr_a0 : IntRow M .i64 a0_v a0) : Calls Tryz.prog 96 #[a0_v,.func (.func 97) #[] #[]] w fun e w' => e = .returned (.bool r) ∧ Below w.heap.size w w' :=
 calls_value (cont97.ok h w hM hr_a0)

/-! ### escutcheon/escutcheonref31.Big: function 16 -/
end Go.Proofs.YthldgjbmjgjogaaGreatDoor
