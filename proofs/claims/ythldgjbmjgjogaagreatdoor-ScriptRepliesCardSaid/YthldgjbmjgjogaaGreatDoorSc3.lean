import Derived.Test.YthldgjbmjgjogaaGreatDoorSc2
namespace Go.Proofs.YthldgjbmjgjogaaGreatDoor
open Go Go.HW Go.RowKit
set_option linter.unusedVariables false
set_option linter.unusedSimpArgs false

/-! ### escutcheon/script.mayCmd: function 54 -/
noncomputable def B54 : Code:=bodyOf Tryz.f54
def script_mayCmd.f (a0 : Cmd) : Option (Bool):=(if (a0.num == 0) = true then ((frame_MayCmd.f a0).bind fun t10 => some t10) else (some false)).bind fun q4 => some q4
set_option maxRecDepth 20000 in
theorem script_mayCmd.ok {a0 : Cmd} {a0_38 : Value} {r : Bool} (h : script_mayCmd.f a0 = some r) {M : Mem} (w : World) (hM : Ext M (heapOf w)) (hr_a0_38 : IntRow M .u8 a0_38 a0.data) : Calls Tryz.prog 54 #[.agg (Cmd.ce a0 a0_38)] w (Post (fun u => u = .bool r) w):=by
 unfold script_mayCmd.f at h
 have hE:=Env.start hM
 refine calls_of_TT (N:=10) (S:=[(0,.agg (Cmd.ce a0 a0_38))]) (c:=B54) Tryz.func54 rfl rfl rfl (by simp) ?_
 show TT _ _ _ _ _ _ [.code (sub [] B54)] _ _
 refine TT.sq rfl ?_
 refine TT.rg [0,1] [kA,kp] rfl rfl ?_
 refine DL.new (ob:=.cells ((Cmd.ce a0 a0_38)) 33) (mk:=fun b => ptr b 0) (i:=0) rfl (Wn.none rfl) rfl rfl rfl (f_box (v:=.agg (Cmd.ce a0 a0_38)) rfl rfl) ?_
 intro b1 hb1
 refine DL.pu 2 (.bool false) rfl (p_assign rfl rfl) ?_
 refine DL.nil ?_
 refine TT.freezeAt (j:=0) hE rfl ?_
 intro M2 I2 hE2 hx2 hxI2 hb2
 have hm_2 : M2 b1 = some (.cells ((Cmd.ce a0 a0_38)) 33 (0,0)):=hb2 _ rfl
 show TT _ _ _ _ _ _ _ _ []
 refine TT.sq rfl ?_
 refine TT.rg [0,1,2,3,4,5,6,7] [kp,kq,kp,kp,kq,kq,kp,kp] rfl rfl ?_
 refine DL.pu 3 (ptr b1 0) rfl (p_fieldAddr ty_f33_0 rfl rfl) ?_
 refine DL.qu 4 (.int .u64 a0.num) rfl (FImm.quiet (i_loadBoxO (I:=M2) hm_2 rfl ty_a24 rfl rfl) (fun w hc => hE2.imm hc)) ?_
 refine DL.pu 5 (.bool (a0.num == 0)) rfl (p_eql rfl rfl rfl) ?_
 refine DL.mv 6 (.bool (a0.num == 0)) rfl rfl rfl ?_
 obtain ⟨q4,h5,h6⟩:=bind_some h
 refine DL.cut [(9,.bool q4)] [7] ?_ (fun J7 => ?_)
 ·
  refine DL.pu 2 (.bool q4) rfl (p_assign rfl rfl) ?_
  refine DL.nil ?_
  obtain rfl:=Option.some.inj h6
  exact retnE (rs:=[.tmp 2]) (vs:=[.bool q4]) hE2.base Tryz.func54 rfl rfl rfl (res_cons (ResV.tmp rfl) res_nil) rfl
 ·
  by_cases c8 : (a0.num == 0) = true
  ·
   have h9:=ite_true c8 h5
   refine DL.quiet (v:=.agg (Cmd.ce a0 a0_38)) rfl (Wn.yes c8 rfl rfl rfl rfl) rfl rfl rfl (FImm.quiet (i_loadBoxA (I:=M2) hm_2 rfl ty_a33 ty_s33 rfl rfl) (fun w hc => hE2.imm hc)) ?_
   obtain ⟨t10,h11,h12⟩:=bind_some h9
   refine DL.quiet (v:=.bool t10) rfl (Wn.yes c8 rfl rfl rfl rfl) rfl rfl rfl (f_callR rfl rfl (args_val (vs:=[.agg (Cmd.ce a0 a0_38)]) rfl) (fun w => enter92 _ w) (fun w hc => frame_MayCmd.val h11 (M:=M2) w (hE2.ext hc) (IntRow.mono hr_a0_38 hx2))) ?_
   refine DL.pu 9 (.bool t10) rfl (p_pick_t c8 rfl rfl rfl) ?_
   obtain rfl:=Option.some.inj h12
   exact DL.weak J7 (Sub.cons rfl (Sub.nil _))
  ·
   replace c8:=Bool.eq_false_iff.mpr c8
   have h13:=ite_false c8 h5
   refine DL.not rfl (Wn.no c8 rfl rfl rfl rfl) rfl rfl ?_
   refine DL.not rfl (Wn.no c8 rfl rfl rfl rfl) rfl rfl ?_
   refine DL.pu 9 (.bool false) rfl (p_pick_f c8 rfl rfl rfl) ?_
   obtain rfl:=Option.some.inj h13
   exact DL.weak J7 (Sub.cons rfl (Sub.nil _))
theorem script_mayCmd.val {a0 : Cmd} {a0_38 : Value} {r : Bool} (h : script_mayCmd.f a0 = some r) {M : Mem} (w : World) (hM : Ext M (heapOf w)) (hr_a0_38 : IntRow M .u8 a0_38 a0.data) : Calls Tryz.prog 54 #[.agg (Cmd.ce a0 a0_38)] w fun e w' => e = .returned (.bool r) ∧ Below w.heap.size w w' :=
 calls_value (script_mayCmd.ok h w hM hr_a0_38)

end Go.Proofs.YthldgjbmjgjogaaGreatDoor
