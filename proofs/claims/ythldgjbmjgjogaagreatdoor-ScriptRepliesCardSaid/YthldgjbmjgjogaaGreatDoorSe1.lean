import Derived.Test.YthldgjbmjgjogaaGreatDoorSd7
import Derived.Test.YthldgjbmjgjogaaGreatDoorSnTk
namespace Go.Proofs.YthldgjbmjgjogaaGreatDoor
open Go Go.HW Go.RowKit
set_option linter.unusedVariables false
set_option linter.unusedSimpArgs false

theorem enter111 (args : Array Value) (w : World) : (callFunc 111 args).run Tryz.prog w = .ok (.enter 111 args) w:=by kernel_rfl
theorem enter91 (args : Array Value) (w : World) : (callFunc 91 args).run Tryz.prog w = .ok (.enter 91 args) w:=by kernel_rfl

/-! ### escutcheon/script.number: function 84 -/
noncomputable def B84 : Code:=bodyOf Tryz.f84
def script_number.f (a0 : List UInt8) : Option (Int):=(sn_atoi.f a0).bind fun (t1_0,t1_1) => if (!t1_1) = true then (some 0) else (some t1_0)
set_option maxRecDepth 20000 in
theorem script_number.ok {a0 : List UInt8} {r : Int} (h : script_number.f a0 = some r) {M : Mem} (w : World) (hM : Ext M (heapOf w)) (hG : GlobE M) : Calls Tryz.prog 84 #[str a0] w (Post (fun u => u = .int .i64 r) w):=by
 unfold script_number.f at h
 have hE:=Env.start hM
 refine calls_of_TT (N:=13) (S:=[(0,str a0)]) (c:=B84) Tryz.func84 rfl rfl rfl (by simp) ?_
 show TT _ _ _ _ _ _ [.code (sub [] B84)] _ _
 refine TT.sq rfl ?_
 refine TT.rg [0] [kp] rfl rfl ?_
 refine DL.pu 2 (.int .i64 0) rfl (p_assign rfl rfl) ?_
 refine DL.nil ?_
 refine TT.sq rfl ?_
 refine TT.rg [0,1,2,3,4,5,6] [kp,kk,kp,kp,kp,kp,kp] rfl rfl ?_
 refine DL.mv 6 (str a0) rfl rfl rfl ?_
 obtain ⟨⟨t1_0,t1_1⟩,h2,h3⟩:=bind_some h
 refine DL.callF (G:=Value) (u:=fun g => .tuple #[.int .i64 t1_0,g]) (Q:=fun g M_ => (ErrV g t1_1)) (A:=[]) (J:=[]) (fun J4 => (J4)) (Nat.le_refl _) hE.nil (List.append_nil _).symm (fun _ => rfl) (by simp) (i:=1) rfl (Wn.none rfl) rfl rfl rfl rfl rfl rfl (args_val (vs:=[str a0]) rfl) (fun w => enter111 _ w) (fun w hc hI => sn_atoi.ok h2 (M:=M) w hI hG) ?_
 rintro t1_1_e M4 J4 hE4 hx4 he_t1_1
 refine DL.mv 5 (.tuple #[.int .i64 t1_0,t1_1_e]) rfl rfl rfl ?_
 refine DL.pu 8 (.int .i64 t1_0) rfl (p_extract rfl rfl rfl) ?_
 refine DL.pu 9 (t1_1_e) rfl (p_extract rfl rfl rfl) ?_
 refine DL.pu 3 (.int .i64 t1_0) rfl (p_assign rfl rfl) ?_
 refine DL.pu 4 (t1_1_e) rfl (p_assign rfl rfl) ?_
 refine DL.nil ?_
 refine TT.settle (A:=[]) (J:=J4) hE4 ?_
 intro I5 hE5 hxI5
 refine TT.sq rfl ?_
 refine TT.sq rfl ?_
 refine TT.rg [0,1] [kp,kp] rfl rfl ?_
 refine DL.mv 10 (t1_1_e) rfl rfl rfl ?_
 refine DL.pu 11 (.bool (!t1_1)) rfl (p_nilNe he_t1_1 (errNe he_t1_1) rfl rfl) ?_
 refine DL.nil ?_
 by_cases c6 : (!t1_1) = true
 ·
  have h7:=ite_true c6 h3
  refine TT.ct rfl rfl c6 ?_
  refine TT.sq rfl ?_
  refine TT.rg [0] [kp] rfl rfl ?_
  refine DL.pu 2 (.int .i64 0) rfl (p_assign rfl rfl) ?_
  refine DL.nil ?_
  obtain rfl:=Option.some.inj h7
  exact retnE (rs:=[.tmp 2]) (vs:=[.int .i64 0]) hE5.base Tryz.func84 rfl rfl rfl (res_cons (ResV.tmp rfl) res_nil) rfl
 ·
  replace c6:=Bool.eq_false_iff.mpr c6
  have h8:=ite_false c6 h3
  refine TT.cf rfl rfl c6 ?_
  refine TT.skip ?_
  refine TT.sq rfl ?_
  refine TT.rg [0,1] [kp,kp] rfl rfl ?_
  refine DL.mv 12 (.int .i64 t1_0) rfl rfl rfl ?_
  refine DL.pu 2 (.int .i64 t1_0) rfl (p_assign rfl rfl) ?_
  refine DL.nil ?_
  obtain rfl:=Option.some.inj h8
  exact retnE (rs:=[.tmp 2]) (vs:=[.int .i64 t1_0]) hE5.base Tryz.func84 rfl rfl rfl (res_cons (ResV.tmp rfl) res_nil) rfl
theorem script_number.val {a0 : List UInt8} {r : Int} (h : script_number.f a0 = some r) {M : Mem} (w : World) (hM : Ext M (heapOf w)) (hG : GlobE M) : Calls Tryz.prog 84 #[str a0] w fun e w' => e = .returned (.int .i64 r) ∧ Below w.heap.size w w' :=
 calls_value (script_number.ok h w hM hG)

/-! ### escutcheon/wire.OfHex: function 91 -/
noncomputable def B91 : Code:=bodyOf Tryz.f91
def wire_OfHex.f (a0 : List UInt8) : Option ((List Int) × Int):=if (a0 == zU) = true then (if ((Int.tmod 0 2) != 0) = true then (some (z0,4)) else (some (z0,0))) else (none)
set_option maxRecDepth 20000 in
theorem wire_OfHex.ok {a0 : List UInt8} {r_0 : List Int} {r_1 : Int} (h : wire_OfHex.f a0 = some (r_0,r_1)) {M : Mem} (w : World) (hM : Ext M (heapOf w)) : Calls Tryz.prog 91 #[str a0] w (PostF (G:=Value) (fun g => .tuple #[g,.int .i64 r_1]) (fun g M_ => (IntRow M_ .u8 g r_0)) M w):=by
 unfold wire_OfHex.f at h
 have hE:=Env.start hM
 refine calls_of_TT (N:=56) (S:=[(0,str a0)]) (c:=B91) Tryz.func91 rfl rfl rfl (by simp) ?_
 show TT _ _ _ _ _ _ [.code (sub [] B91)] _ _
 refine TT.sq rfl ?_
 refine TT.rg [0,1] [kp,kp] rfl rfl ?_
 refine DL.pu 2 nS rfl (p_assign rfl rfl) ?_
 refine DL.pu 3 (.int .i64 0) rfl (p_assign rfl rfl) ?_
 refine DL.nil ?_
 refine TT.sq rfl ?_
 refine TT.rg [0] [kp] rfl rfl ?_
 refine DL.pu 4 nS rfl (p_assign rfl rfl) ?_
 refine DL.nil ?_
 refine TT.sq rfl ?_
 refine TT.sq rfl ?_
 refine TT.rg [0,1] [kp,kk] rfl rfl ?_
 refine DL.mv 8 (str a0) rfl rfl rfl ?_
 by_cases hs1_0 : a0 = zU
 ·
  subst hs1_0
  replace h:=(if_pos (by decide)).symm.trans h
  refine DL.keep (X:=Nat) (u:=fun b => ptr b 0) (H':=fun b => (some b,.stringIter ⟨#[]⟩ 0) :: []) (fun _ p hp => List.mem_cons_of_mem _ hp) (i:=1) rfl (Wn.none rfl) rfl rfl rfl (f_rangeText (s:=⟨#[]⟩) (by kernel_rfl : Tryz.prog.underlying 9 = some .string) rfl rfl) ?_
  intro b2
  refine DL.nil ?_
  refine TT.bk rfl ?_
  refine TT.lp rfl ?_
  refine TT.sq rfl ?_
  refine TT.rg [0,1] [kx,kp] rfl rfl ?_
  refine DL.chrE (j:=0) rfl rfl rfl rfl rfl rfl (by decide) rfl rfl ?_
  refine DL.pu 11 (.bool false) rfl (p_extract rfl rfl rfl) ?_
  refine DL.nil ?_
  refine TT.sq rfl ?_
  refine TT.cf rfl rfl rfl ?_
  refine TT.exit rfl ?_
  refine TT.sq rfl ?_
  refine TT.sq rfl ?_
  refine TT.rg [0,1,2,3] [kp,kp,kp,kp] rfl rfl ?_
  refine DL.mv 51 (str zU) rfl rfl rfl ?_
  refine DL.pu 52 (.int .i64 0) rfl (show FPure _ _ _ (.int .i64 ((zU : List UInt8).length : Int)) from p_strLen ty_u9 rfl rfl) ?_
  refine DL.pu 53 (.int .i64 (Int.tmod 0 2)) rfl (p_rem (by decide) rfl rfl rfl) ?_
  refine DL.pu 54 (.bool ((Int.tmod 0 2) != 0)) rfl (p_neq rfl rfl rfl) ?_
  refine DL.nil ?_
  by_cases c3 : ((Int.tmod 0 2) != 0) = true
  ·
   have h4:=ite_true c3 h
   refine TT.ct rfl rfl c3 ?_
   refine TT.sq rfl ?_
   refine TT.rg [0,1] [kp,kp] rfl rfl ?_
   refine DL.pu 2 nS rfl (p_assign rfl rfl) ?_
   refine DL.pu 3 (.int .i64 4) rfl (p_assign rfl rfl) ?_
   refine DL.nil ?_
   simp only [Option.some.injEq,Prod.mk.injEq] at h4
   obtain ⟨rfl,rfl⟩:=h4
   exact retF (rs:=[.tmp 2,.tmp 3]) (vs:=[nS,.int .i64 4]) nS hE Tryz.func91 rfl rfl rfl (res_cons (ResV.tmp rfl) (res_cons (ResV.tmp rfl) res_nil)) (IntRow.nil .u8 M)
  ·
   replace c3:=Bool.eq_false_iff.mpr c3
   have h5:=ite_false c3 h
   refine TT.cf rfl rfl c3 ?_
   refine TT.skip ?_
   refine TT.sq rfl ?_
   refine TT.rg [0,1,2] [kp,kp,kp] rfl rfl ?_
   refine DL.mv 55 nS rfl rfl rfl ?_
   refine DL.pu 2 nS rfl (p_assign rfl rfl) ?_
   refine DL.pu 3 (.int .i64 0) rfl (p_assign rfl rfl) ?_
   refine DL.nil ?_
   simp only [Option.some.injEq,Prod.mk.injEq] at h5
   obtain ⟨rfl,rfl⟩:=h5
   exact retF (rs:=[.tmp 2,.tmp 3]) (vs:=[nS,.int .i64 0]) nS hE Tryz.func91 rfl rfl rfl (res_cons (ResV.tmp rfl) (res_cons (ResV.tmp rfl) res_nil)) (IntRow.nil .u8 M)
 replace h:=(if_neg (by simpa using hs1_0)).symm.trans h
 cases h

/-! ### escutcheon/script.bytesOf: function 53 -/
noncomputable def B53 : Code:=bodyOf Tryz.f53
def script_bytesOf.f (a0 : List UInt8) : Option ((List Int)):=(wire_OfHex.f a0).bind fun (t1_0,t1_1) => some t1_0
set_option maxRecDepth 20000 in
theorem script_bytesOf.ok {a0 : List UInt8} {r : List Int} (h : script_bytesOf.f a0 = some r) {M : Mem} (w : World) (hM : Ext M (heapOf w)) : Calls Tryz.prog 53 #[str a0] w (PostF (G:=Value) (fun g => g) (fun g M_ => (IntRow M_ .u8 g r)) M w):=by
 unfold script_bytesOf.f at h
 have hE:=Env.start hM
 refine calls_of_TT (N:=11) (S:=[(0,str a0)]) (c:=B53) Tryz.func53 rfl rfl rfl (by simp) ?_
 show TT _ _ _ _ _ _ [.code (sub [] B53)] _ _
 refine TT.sq rfl ?_
 refine TT.rg [0] [kp] rfl rfl ?_
 refine DL.pu 2 nS rfl (p_assign rfl rfl) ?_
 refine DL.nil ?_
 refine TT.sq rfl ?_
 refine TT.rg [0,1,2,3,4,5,6] [kp,kk,kp,kp,kp,kp,kp] rfl rfl ?_
 refine DL.mv 6 (str a0) rfl rfl rfl ?_
 obtain ⟨⟨t1_0,t1_1⟩,h2,h3⟩:=bind_some h
 refine DL.callF (G:=Value) (u:=fun g => .tuple #[g,.int .i64 t1_1]) (Q:=fun g M_ => (IntRow M_ .u8 g t1_0)) (A:=[]) (J:=[]) (fun J4 => (J4)) (Nat.le_refl _) hE.nil (List.append_nil _).symm (fun _ => rfl) (by simp) (i:=1) rfl (Wn.none rfl) rfl rfl rfl rfl rfl rfl (args_val (vs:=[str a0]) rfl) (fun w => enter91 _ w) (fun w hc hI => wire_OfHex.ok h2 (M:=M) w hI ) ?_
 rintro t1_0_v M4 J4 hE4 hx4 hr_t1_0
 refine DL.mv 5 (.tuple #[t1_0_v,.int .i64 t1_1]) rfl rfl rfl ?_
 refine DL.pu 8 (t1_0_v) rfl (p_extract rfl rfl rfl) ?_
 refine DL.pu 9 (.int .i64 t1_1) rfl (p_extract rfl rfl rfl) ?_
 refine DL.pu 3 (t1_0_v) rfl (p_assign rfl rfl) ?_
 refine DL.pu 4 (.int .i64 t1_1) rfl (p_assign rfl rfl) ?_
 refine DL.nil ?_
 refine TT.settle (A:=[]) (J:=J4) hE4 ?_
 intro I5 hE5 hxI5
 refine TT.sq rfl ?_
 refine TT.rg [0,1] [kp,kp] rfl rfl ?_
 refine DL.mv 10 (t1_0_v) rfl rfl rfl ?_
 refine DL.pu 2 (t1_0_v) rfl (p_assign rfl rfl) ?_
 refine DL.nil ?_
 obtain rfl:=Option.some.inj h3
 exact retF (rs:=[.tmp 2]) (vs:=[t1_0_v]) t1_0_v hE5 Tryz.func53 rfl rfl rfl (res_cons (ResV.tmp rfl) res_nil) hr_t1_0

end Go.Proofs.YthldgjbmjgjogaaGreatDoor
