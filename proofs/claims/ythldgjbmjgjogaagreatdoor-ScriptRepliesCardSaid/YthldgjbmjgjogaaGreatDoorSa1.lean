import Derived.Test.YthldgjbmjgjogaaGreatDoorSnBase
namespace Go.Proofs.YthldgjbmjgjogaaGreatDoor
open Go Go.HW Go.RowKit
set_option linter.unusedVariables false
set_option linter.unusedSimpArgs false

theorem mixed : Tryz.prog.follows .mixedOrders = true:=by kernel_rfl
theorem ty_u31 (w : World) : (underlying 31).run Tryz.prog w = .ok (.slice 5) w:=by kernel_rfl
theorem ty_s5 (w : World) : (sizeOf 5).run Tryz.prog w = .ok 1 w:=by kernel_rfl
theorem ty_a5 (w : World) : (isAgg 5).run Tryz.prog w = .ok false w:=by kernel_rfl
theorem ty_u9 (w : World) : (underlying 9).run Tryz.prog w = .ok (.string) w:=by kernel_rfl
theorem elem31 : Elem Tryz.prog 31 5 1 1 (.int .u8 0):=Elem.of (by kernel_rfl) (by kernel_rfl) rfl (by decide)
theorem ty_us31 : Tryz.prog.underlying 31 = some (.slice 5):=by kernel_rfl
theorem ty_us5 : Tryz.prog.underlying 5 = some (.int .u8):=by kernel_rfl
theorem ty_us9 : Tryz.prog.underlying 9 = some (.string):=by kernel_rfl
theorem enter65 (args : Array Value) (w : World) : (callFunc 65 args).run Tryz.prog w = .ok (.enter 65 args) w:=by kernel_rfl
theorem enter86 (args : Array Value) (w : World) : (callFunc 86 args).run Tryz.prog w = .ok (.enter 86 args) w:=by kernel_rfl
theorem elem46 : Elem Tryz.prog 46 9 1 16 (str zU):=Elem.of (by kernel_rfl) (by kernel_rfl) rfl (by decide)
theorem ty_u46 (w : World) : (underlying 46).run Tryz.prog w = .ok (.slice 9) w:=by kernel_rfl
theorem ty_u3 (w : World) : (underlying 3).run Tryz.prog w = .ok (.int .i64) w:=by kernel_rfl
theorem ty_s9 (w : World) : (sizeOf 9).run Tryz.prog w = .ok 1 w:=by kernel_rfl
theorem ty_a9 (w : World) : (isAgg 9).run Tryz.prog w = .ok false w:=by kernel_rfl
theorem enter69 (args : Array Value) (w : World) : (callFunc 69 args).run Tryz.prog w = .ok (.enter 69 args) w:=by kernel_rfl
theorem ty_f62_3 (a : Addr) (w : World) : (Instr.fieldAt 62 (.pointer (some a)) 3).run Tryz.prog w = .ok (.pointer (some (a.add 3))) w:=by kernel_rfl
theorem ty_a60 (w : World) : (isAgg 60).run Tryz.prog w = .ok false w:=by kernel_rfl
theorem ty_u60 (w : World) : (underlying 60).run Tryz.prog w = .ok (.slice 31) w:=by kernel_rfl
theorem ty_s31 (w : World) : (sizeOf 31).run Tryz.prog w = .ok 1 w:=by kernel_rfl
theorem ty_a31 (w : World) : (isAgg 31).run Tryz.prog w = .ok false w:=by kernel_rfl
theorem ty_f62_0 (a : Addr) (w : World) : (Instr.fieldAt 62 (.pointer (some a)) 0).run Tryz.prog w = .ok (.pointer (some (a.add 0))) w:=by kernel_rfl
theorem ty_a24 (w : World) : (isAgg 24).run Tryz.prog w = .ok false w:=by kernel_rfl
theorem enter67 (args : Array Value) (w : World) : (callFunc 67 args).run Tryz.prog w = .ok (.enter 67 args) w:=by kernel_rfl
theorem ty_f62_1 (a : Addr) (w : World) : (Instr.fieldAt 62 (.pointer (some a)) 1).run Tryz.prog w = .ok (.pointer (some (a.add 1))) w:=by kernel_rfl
theorem ty_a3 (w : World) : (isAgg 3).run Tryz.prog w = .ok false w:=by kernel_rfl
theorem enter63 (args : Array Value) (w : World) : (callFunc 63 args).run Tryz.prog w = .ok (.enter 63 args) w:=by kernel_rfl
theorem ty_f62_2 (a : Addr) (w : World) : (Instr.fieldAt 62 (.pointer (some a)) 2).run Tryz.prog w = .ok (.pointer (some (a.add 2))) w:=by kernel_rfl
theorem ty_a28 (w : World) : (isAgg 28).run Tryz.prog w = .ok false w:=by kernel_rfl
theorem ty_u28 (w : World) : (underlying 28).run Tryz.prog w = .ok (.int .u32) w:=by kernel_rfl
theorem enter68 (args : Array Value) (w : World) : (callFunc 68 args).run Tryz.prog w = .ok (.enter 68 args) w:=by kernel_rfl
theorem enter66 (args : Array Value) (w : World) : (callFunc 66 args).run Tryz.prog w = .ok (.enter 66 args) w:=by kernel_rfl
theorem ty_u79 (w : World) : (underlying 79).run Tryz.prog w = .ok (.map 23 86) w:=by kernel_rfl
theorem ty_u23 (w : World) : (underlying 23).run Tryz.prog w = .ok (.int .i64) w:=by kernel_rfl
theorem ty_u126 (w : World) : (underlying 126).run Tryz.prog w = .ok (.map 27 125) w:=by kernel_rfl
theorem ty_u27 (w : World) : (underlying 27).run Tryz.prog w = .ok (.int .i64) w:=by kernel_rfl
theorem enter89 (args : Array Value) (w : World) : (callFunc 89 args).run Tryz.prog w = .ok (.enter 89 args) w:=by kernel_rfl
theorem ty_z125 (w : World) : (zeroValue 125).run Tryz.prog w = .ok (.agg #[str zU]) w:=by kernel_rfl

/-! ### escutcheon/escutcheonlaw31.num: function 14 -/
noncomputable def B14 : Code:=bodyOf Tryz.f14
def law31_num.f (a0 : Int) : Option (Int):=some a0
set_option maxRecDepth 20000 in
theorem law31_num.ok {a0 : Int} {r : Int} (h : law31_num.f a0 = some r) {M : Mem} (w : World) (hM : Ext M (heapOf w)) : Calls Tryz.prog 14 #[.int .i64 a0] w (Post (fun u => u = .int .i64 r) w):=by
 unfold law31_num.f at h
 have hE:=Env.start hM
 refine calls_of_TT (N:=4) (S:=[(0,.int .i64 a0)]) (c:=B14) Tryz.func14 rfl rfl rfl (by simp) ?_
 show TT _ _ _ _ _ _ [.code (sub [] B14)] _ _
 refine TT.sq rfl ?_
 refine TT.rg [0] [kp] rfl rfl ?_
 refine DL.pu 2 (.int .i64 0) rfl (p_assign rfl rfl) ?_
 refine DL.nil ?_
 refine TT.sq rfl ?_
 refine TT.rg [0,1] [kp,kp] rfl rfl ?_
 refine DL.mv 3 (.int .i64 a0) rfl rfl rfl ?_
 refine DL.pu 2 (.int .i64 a0) rfl (p_assign rfl rfl) ?_
 refine DL.nil ?_
 obtain rfl:=Option.some.inj h
 exact retnE (rs:=[.tmp 2]) (vs:=[.int .i64 a0]) hE.base Tryz.func14 rfl rfl rfl (res_cons (ResV.tmp rfl) res_nil) rfl
theorem law31_num.val {a0 : Int} {r : Int} (h : law31_num.f a0 = some r) {M : Mem} (w : World) (hM : Ext M (heapOf w)) : Calls Tryz.prog 14 #[.int .i64 a0] w fun e w' => e = .returned (.int .i64 r) ∧ Below w.heap.size w w' :=
 calls_value (law31_num.ok h w hM)

/-! ### escutcheon/escutcheonref01.Hex: function 65 -/
noncomputable def B65 : Code:=bodyOf Tryz.f65
def ref01_Hex.L0 (a0 : List Int) : Nat → (List Int) → Int → Option (List Int)
 | 0,_,_ => none
 | k + 1,y_2,x5_3 => if (decide (x5_3 < (a0.length : Int))) = true then (req (0 ≤ x5_3) (req (x5_3 < (a0.length : Int)) (nm (IntKind.u8.wrap (Int.tdiv (a0.getD x5_3.toNat 0) 16)) fun t92 => req (0 ≤ t92) (req (t92 < ([48,49,50,51,52,53,54,55,56,57,97,98,99,100,101,102].length : Int)) (nm (chr [48,49,50,51,52,53,54,55,56,57,97,98,99,100,101,102] t92.toNat) fun t99 => req (0 ≤ (Int.tmod (a0.getD x5_3.toNat 0) 16)) (req ((Int.tmod (a0.getD x5_3.toNat 0) 16) < ([48,49,50,51,52,53,54,55,56,57,97,98,99,100,101,102].length : Int)) (nm (chr [48,49,50,51,52,53,54,55,56,57,97,98,99,100,101,102] (Int.tmod (a0.getD x5_3.toNat 0) 16).toNat) fun t106 => req (y_2.length + [t99,t106].length ≤ 1099511627776) (ref01_Hex.L0 a0 k (y_2 ++ [t99,t106]) (IntKind.i64.wrap (x5_3 + 1)))))))))) else (some y_2)
set_option maxRecDepth 20000 in
theorem ref01_Hex.L0_ok (a0 : List Int) (a0_v : Value) {R : Ending → World → Prop} {w0 : World} {M0 M I : Mem} {K : List Item} (hE : Env w0 M0 M I) (hr_a0 : IntRow M .u8 a0_v a0) :
  ∀ (k : Nat) (y_2 : List Int) (x5_3 : Int) (y_2_v : Value) (y_2_c : Array Value) (r0_ : List Int) (ho_y_2 : IntOwn .u8 y_2_v y_2_c y_2) (h : ref01_Hex.L0 a0 k y_2 x5_3 = some r0_) (hk : ∀ (z_o1_84_v : Value),∀ (z_o1_84_c : Array Value),IntOwn .u8 z_o1_84_v z_o1_84_c r0_ → TT Tryz.prog 65 R 31 w0 I K [(4,z_o1_84_v)] [(Value.ownBlock z_o1_84_v,.cells z_o1_84_c 5 (0,0))]),
   TT Tryz.prog 65 R 31 w0 I (.code (sub [1,1,1,0,1,0,0] B65) :: .inLoop (sub [1,1,1,0,1,0,0] B65) :: .inBlock 0 :: K) [(0,a0_v),(3,str [48,49,50,51,52,53,54,55,56,57,97,98,99,100,101,102]),(4,y_2_v),(5,.int .i64 x5_3)] [(Value.ownBlock y_2_v,.cells y_2_c 5 (0,0))]:=by
 intro k
 induction k with
 | zero => intro y_2 x5_3 y_2_v y_2_c r0_ ho_y_2 h; simp [ref01_Hex.L0] at h
 | succ k ih =>
  intro y_2 x5_3 y_2_v y_2_c r0_ ho_y_2 h hk
  unfold ref01_Hex.L0 at h
  refine TT.sq rfl ?_
  refine TT.sq rfl ?_
  refine TT.rg [0,1,2,3] [kp,kp,kp,kp] rfl rfl ?_
  refine DL.mv 6 (.int .i64 x5_3) rfl rfl rfl ?_
  refine DL.mv 7 (a0_v) rfl rfl rfl ?_
  refine DL.pu 8 (.int .i64 (a0.length : Int)) rfl (p_slLen ty_u31 (RowV.sl hr_a0) rfl rfl) ?_
  refine DL.pu 9 (.bool (decide (x5_3 < (a0.length : Int)))) rfl (p_lss rfl rfl rfl) ?_
  refine DL.nil ?_
  by_cases c85 : (decide (x5_3 < (a0.length : Int))) = true
  ·
   have h86:=ite_true c85 h
   refine TT.ct rfl rfl c85 ?_
   refine TT.skip ?_
   refine TT.sq rfl ?_
   refine TT.bk rfl ?_
   refine TT.rgD [0,1,2,3,4,5,6,7,8,9,10,11,12,13,14,15,16,17] [0,0,0,0,12,28,60,126,0,0,0,1536,3584,7680,16128,32766,65535,131071] [kp,kp,kp,kp,kp,kp,kp,kp,kp,kp,kp,kp,kp,kp,kp,kA,kx,kp] rfl mixed (by kernel_rfl) ?_
   intro w87 hl87 hj87 hz87
   refine DL.mv 12 (y_2_v) rfl rfl rfl ?_
   refine DL.mv 13 (str [48,49,50,51,52,53,54,55,56,57,97,98,99,100,101,102]) rfl rfl rfl ?_
   refine DL.mv 14 (a0_v) rfl rfl rfl ?_
   refine DL.mv 15 (.int .i64 x5_3) rfl rfl rfl ?_
   obtain ⟨g88,h89⟩:=req_some h86
   obtain ⟨g90,h91⟩:=req_some h89
   refine DL.pu 16 (elp a0_v x5_3.toNat) rfl (p_slIx1 ty_u31 ty_s5 (RowV.some hr_a0 g88 g90) g88 g90 rfl rfl rfl) ?_
   refine DL.imm (v:=.int .u8 (a0.getD x5_3.toNat 0)) rfl (Wn.none rfl) rfl rfl rfl (i_loadEl (RowV.mono hr_a0 hE.mi) (encl_get .u8 (lt_len g88 g90)) ty_a5 rfl rfl) ?_
   obtain ⟨t92,e93,h94⟩:=nm_some h91
   refine DL.pu 18 (.int .u8 t92) rfl (by rw [e93]; exact p_quo (by decide) rfl rfl rfl) ?_
   obtain ⟨g95,h96⟩:=req_some h94
   obtain ⟨g97,h98⟩:=req_some h96
   obtain ⟨t99,e100,h101⟩:=nm_some h98
   refine DL.pu 19 (.int .u8 t99) rfl (by rw [e100]; exact p_strIndex ty_u9 g95 g97 rfl rfl rfl) ?_
   refine DL.mv 20 (str [48,49,50,51,52,53,54,55,56,57,97,98,99,100,101,102]) rfl rfl rfl ?_
   refine DL.mv 21 (a0_v) rfl rfl rfl ?_
   refine DL.mv 22 (.int .i64 x5_3) rfl rfl rfl ?_
   refine DL.pu 23 (elp a0_v x5_3.toNat) rfl (p_slIx1 ty_u31 ty_s5 (RowV.some hr_a0 g88 g90) g88 g90 rfl rfl rfl) ?_
   refine DL.imm (v:=.int .u8 (a0.getD x5_3.toNat 0)) rfl (Wn.none rfl) rfl rfl rfl (i_loadEl (RowV.mono hr_a0 hE.mi) (encl_get .u8 (lt_len g88 g90)) ty_a5 rfl rfl) ?_
   refine DL.pu 25 (.int .u8 (Int.tmod (a0.getD x5_3.toNat 0) 16)) rfl (p_rem (by decide) rfl rfl rfl) ?_
   obtain ⟨g102,h103⟩:=req_some h101
   obtain ⟨g104,h105⟩:=req_some h103
   obtain ⟨t106,e107,h108⟩:=nm_some h105
   refine DL.pu 26 (.int .u8 t106) rfl (by rw [e107]; exact p_strIndex ty_u9 g102 g104 rfl rfl rfl) ?_
   refine DL.newSl (zs:=[t99,t106]) (n:=2) rfl (by decide) (i:=15) rfl (Wn.none rfl) rfl rfl rfl (f_buildSl (n:=2) (zs:=[t99,t106]) (vs:=[(0,.int .u8 t99),(1,.int .u8 t106)]) elem31 rfl rfl (by kernel_rfl) rfl (args_val2 rfl)) ?_
   intro s110_v s110_c ho_s110
   obtain ⟨g111,h112⟩:=req_some h108
   refine DL.appendI (fun s113_v s113_c => [(Value.ownBlock s110_v,.cells s110_c 5 (0,0)),(Value.ownBlock s113_v,.cells s113_c 5 (0,0))]) elem31 (j:=1) rfl ho_y_2 g111 (by decide) (fun w hc => IntOwn.src (i:=0) ho_s110 hc rfl) (i:=16) rfl (Wn.none rfl) rfl rfl rfl rfl rfl rfl (fun _ _ => rfl) ?_
   intro s113_v s113_c ho_s113
   refine DL.pu 4 (s113_v) rfl (p_assign rfl rfl) ?_
   refine DL.nil' hl87 ?_
   refine TT.inBlock ?_
   refine TT.rg [0,1,2] [kp,kp,kp] rfl rfl ?_
   refine DL.mv 10 (.int .i64 x5_3) rfl rfl rfl ?_
   refine DL.pu 11 (.int .i64 (IntKind.i64.wrap (x5_3 + 1))) rfl (p_add rfl rfl rfl) ?_
   refine DL.pu 5 (.int .i64 (IntKind.i64.wrap (x5_3 + 1))) rfl (p_assign rfl rfl) ?_
   refine DL.nil ?_
   refine TT.inLoop ?_
   exact TT.pick [1] (by decide) (TT.weak (ih (y_2 ++ [t99,t106]) (IntKind.i64.wrap (x5_3 + 1)) s113_v s113_c r0_ ho_s113 h112 hk) (Sub.cons rfl (Sub.cons rfl (Sub.cons rfl (Sub.cons rfl (Sub.nil _))))))
  ·
   replace c85:=Bool.eq_false_iff.mpr c85
   have h114:=ite_false c85 h
   refine TT.cf rfl rfl c85 ?_
   refine TT.exit rfl ?_
   obtain rfl:=Option.some.inj h114
   exact TT.weak (hk y_2_v y_2_c ho_y_2) (Sub.cons rfl (Sub.nil _))

def ref01_Hex.f (a0 : List Int) : Option ((List UInt8)):=(ref01_Hex.L0 a0 ((a0.length : Int).toNat + 1) z0 0).bind fun z_o1_84 => some (bytesL z_o1_84)
set_option maxRecDepth 20000 in
theorem ref01_Hex.ok {a0 : List Int} {a0_v : Value} {r : List UInt8} (h : ref01_Hex.f a0 = some r) {M : Mem} (w : World) (hM : Ext M (heapOf w)) (hr_a0 : IntRow M .u8 a0_v a0) : Calls Tryz.prog 65 #[a0_v] w (Post (fun u => u = str r) w):=by
 unfold ref01_Hex.f at h
 have hE:=Env.start hM
 refine calls_of_TT (N:=31) (S:=[(0,a0_v)]) (c:=B65) Tryz.func65 rfl rfl rfl (by simp) ?_
 show TT _ _ _ _ _ _ [.code (sub [] B65)] _ _
 refine TT.sq rfl ?_
 refine TT.rg [0] [kp] rfl rfl ?_
 refine DL.pu 2 (str zU) rfl (p_assign rfl rfl) ?_
 refine DL.nil ?_
 refine TT.sq rfl ?_
 refine TT.rg [0] [kp] rfl rfl ?_
 refine DL.pu 3 (str [48,49,50,51,52,53,54,55,56,57,97,98,99,100,101,102]) rfl (p_assign rfl rfl) ?_
 refine DL.nil ?_
 refine TT.sq rfl ?_
 refine TT.rg [0] [kp] rfl rfl ?_
 refine DL.pu 4 nS rfl (p_assign rfl rfl) ?_
 refine DL.nil ?_
 refine TT.sq rfl ?_
 refine TT.sq rfl ?_
 refine TT.rg [0] [kp] rfl rfl ?_
 refine DL.pu 5 (.int .i64 0) rfl (p_assign rfl rfl) ?_
 refine DL.nil ?_
 refine TT.bk rfl ?_
 refine TT.nilOwn (e:=5) ?_
 refine TT.lp rfl ?_
 obtain ⟨z_o1_84,h115,h116⟩:=bind_some h
 refine TT.weak (ref01_Hex.L0_ok a0 a0_v hE hr_a0 ((a0.length : Int).toNat + 1) z0 0 nS (#[]) z_o1_84 (IntOwn.nil .u8) h115 (fun z_o1_84_v z_o1_84_c ho_z_o1_84 => ?_)) (Sub.cons rfl (Sub.cons rfl (Sub.cons rfl (Sub.cons rfl (Sub.nil _)))))
 refine TT.sq rfl ?_
 refine TT.rg [0,1,2] [kp,kq,kp] rfl rfl ?_
 refine DL.mv 29 (z_o1_84_v) rfl rfl rfl ?_
 refine DL.qu 30 (str (bytesL z_o1_84)) rfl (q_bytesStr ty_us31 ty_us5 ty_us9 (fun w hc => IntOwn.row (i:=0) ho_z_o1_84 hc rfl) rfl rfl) ?_
 refine DL.pu 2 (str (bytesL z_o1_84)) rfl (p_assign rfl rfl) ?_
 refine DL.nil ?_
 obtain rfl:=Option.some.inj h116
 exact retnE (rs:=[.tmp 2]) (vs:=[str (bytesL z_o1_84)]) hE.base Tryz.func65 rfl rfl rfl (res_cons (ResV.tmp rfl) res_nil) rfl
theorem ref01_Hex.val {a0 : List Int} {a0_v : Value} {r : List UInt8} (h : ref01_Hex.f a0 = some r) {M : Mem} (w : World) (hM : Ext M (heapOf w)) (hr_a0 : IntRow M .u8 a0_v a0) : Calls Tryz.prog 65 #[a0_v] w fun e w' => e = .returned (str r) ∧ Below w.heap.size w w' :=
 calls_value (ref01_Hex.ok h w hM hr_a0)

/-! ### escutcheon/escutcheonref31.Digits: function 66 -/
noncomputable def B66 : Code:=bodyOf Tryz.f66
def ref31_Digits.f (a0 : List Int) : Option ((List UInt8)):=if ((a0.length : Int) == 0) = true then (some [45]) else ((ref01_Hex.f a0).bind fun t4 => some t4)
set_option maxRecDepth 20000 in
theorem ref31_Digits.ok {a0 : List Int} {a0_v : Value} {r : List UInt8} (h : ref31_Digits.f a0 = some r) {M : Mem} (w : World) (hM : Ext M (heapOf w)) (hr_a0 : IntRow M .u8 a0_v a0) : Calls Tryz.prog 66 #[a0_v] w (Post (fun u => u = str r) w):=by
 unfold ref31_Digits.f at h
 have hE:=Env.start hM
 refine calls_of_TT (N:=8) (S:=[(0,a0_v)]) (c:=B66) Tryz.func66 rfl rfl rfl (by simp) ?_
 show TT _ _ _ _ _ _ [.code (sub [] B66)] _ _
 refine TT.sq rfl ?_
 refine TT.rg [0] [kp] rfl rfl ?_
 refine DL.pu 2 (str zU) rfl (p_assign rfl rfl) ?_
 refine DL.nil ?_
 refine TT.sq rfl ?_
 refine TT.sq rfl ?_
 refine TT.rg [0,1,2] [kp,kp,kp] rfl rfl ?_
 refine DL.mv 3 (a0_v) rfl rfl rfl ?_
 refine DL.pu 4 (.int .i64 (a0.length : Int)) rfl (p_slLen ty_u31 (RowV.sl hr_a0) rfl rfl) ?_
 refine DL.pu 5 (.bool ((a0.length : Int) == 0)) rfl (p_eql rfl rfl rfl) ?_
 refine DL.nil ?_
 by_cases c1 : ((a0.length : Int) == 0) = true
 ·
  have h2:=ite_true c1 h
  refine TT.ct rfl rfl c1 ?_
  refine TT.sq rfl ?_
  refine TT.rg [0] [kp] rfl rfl ?_
  refine DL.pu 2 (str [45]) rfl (p_assign rfl rfl) ?_
  refine DL.nil ?_
  obtain rfl:=Option.some.inj h2
  exact retnE (rs:=[.tmp 2]) (vs:=[str [45]]) hE.base Tryz.func66 rfl rfl rfl (res_cons (ResV.tmp rfl) res_nil) rfl
 ·
  replace c1:=Bool.eq_false_iff.mpr c1
  have h3:=ite_false c1 h
  refine TT.cf rfl rfl c1 ?_
  refine TT.skip ?_
  refine TT.sq rfl ?_
  refine TT.rg [0,1,2] [kp,kq,kp] rfl rfl ?_
  refine DL.mv 6 (a0_v) rfl rfl rfl ?_
  obtain ⟨t4,h5,h6⟩:=bind_some h3
  refine DL.qu 7 (str t4) rfl (f_callR rfl rfl (args_val (vs:=[a0_v]) rfl) (fun w => enter65 _ w) (fun w hc => ref01_Hex.val h5 (M:=M) w (hE.ext hc) hr_a0)) ?_
  refine DL.pu 2 (str t4) rfl (p_assign rfl rfl) ?_
  refine DL.nil ?_
  obtain rfl:=Option.some.inj h6
  exact retnE (rs:=[.tmp 2]) (vs:=[str t4]) hE.base Tryz.func66 rfl rfl rfl (res_cons (ResV.tmp rfl) res_nil) rfl
theorem ref31_Digits.val {a0 : List Int} {a0_v : Value} {r : List UInt8} (h : ref31_Digits.f a0 = some r) {M : Mem} (w : World) (hM : Ext M (heapOf w)) (hr_a0 : IntRow M .u8 a0_v a0) : Calls Tryz.prog 66 #[a0_v] w fun e w' => e = .returned (str r) ∧ Below w.heap.size w w' :=
 calls_value (ref31_Digits.ok h w hM hr_a0)

/-! ### escutcheon/wire.Hex: function 86 -/
noncomputable def B86 : Code:=bodyOf Tryz.f86
def wire_Hex.L0 (a0 : List Int) : Nat → (List Int) → Int → Option (List Int)
 | 0,_,_ => none
 | k + 1,y_2,x8_3 => if (decide (x8_3 < (a0.length : Int))) = true then (req (0 ≤ x8_3) (req (x8_3 < (a0.length : Int)) (req (0 ≤ (ishr .u8 (a0.getD x8_3.toNat 0) 4)) (req ((ishr .u8 (a0.getD x8_3.toNat 0) 4) < ([48,49,50,51,52,53,54,55,56,57,97,98,99,100,101,102].length : Int)) (nm (chr [48,49,50,51,52,53,54,55,56,57,97,98,99,100,101,102] (ishr .u8 (a0.getD x8_3.toNat 0) 4).toNat) fun t93 => req (0 ≤ (iand .u8 (a0.getD x8_3.toNat 0) 15)) (req ((iand .u8 (a0.getD x8_3.toNat 0) 15) < ([48,49,50,51,52,53,54,55,56,57,97,98,99,100,101,102].length : Int)) (nm (chr [48,49,50,51,52,53,54,55,56,57,97,98,99,100,101,102] (iand .u8 (a0.getD x8_3.toNat 0) 15).toNat) fun t100 => req (y_2.length + [t93,t100].length ≤ 1099511627776) (wire_Hex.L0 a0 k (y_2 ++ [t93,t100]) (IntKind.i64.wrap (x8_3 + 1)))))))))) else (some y_2)
set_option maxRecDepth 20000 in
theorem wire_Hex.L0_ok (a0 : List Int) (a0_v : Value) {R : Ending → World → Prop} {w0 : World} {M0 M I : Mem} {K : List Item} (hE : Env w0 M0 M I) (hr_a0 : IntRow M .u8 a0_v a0) :
  ∀ (k : Nat) (y_2 : List Int) (x8_3 : Int) (y_2_v : Value) (y_2_c : Array Value) (r0_ : List Int) (ho_y_2 : IntOwn .u8 y_2_v y_2_c y_2) (h : wire_Hex.L0 a0 k y_2 x8_3 = some r0_) (hk : ∀ (z_o1_81_v : Value),∀ (z_o1_81_c : Array Value),IntOwn .u8 z_o1_81_v z_o1_81_c r0_ → TT Tryz.prog 86 R 24 w0 I K [(3,z_o1_81_v)] [(Value.ownBlock z_o1_81_v,.cells z_o1_81_c 5 (0,0))]),
   TT Tryz.prog 86 R 24 w0 I (.code (sub [1,1,0,1,0,0] B86) :: .inLoop (sub [1,1,0,1,0,0] B86) :: .inBlock 0 :: K) [(3,y_2_v),(6,a0_v),(7,.int .i64 (a0.length : Int)),(8,.int .i64 x8_3)] [(Value.ownBlock y_2_v,.cells y_2_c 5 (0,0))]:=by
 intro k
 induction k with
 | zero => intro y_2 x8_3 y_2_v y_2_c r0_ ho_y_2 h; simp [wire_Hex.L0] at h
 | succ k ih =>
  intro y_2 x8_3 y_2_v y_2_c r0_ ho_y_2 h hk
  unfold wire_Hex.L0 at h
  refine TT.sq rfl ?_
  refine TT.rg [0] [kp] rfl rfl ?_
  refine DL.pu 9 (.bool (decide (x8_3 < (a0.length : Int)))) rfl (p_lss rfl rfl rfl) ?_
  refine DL.nil ?_
  refine TT.sq rfl ?_
  by_cases c82 : (decide (x8_3 < (a0.length : Int))) = true
  ·
   have h83:=ite_true c82 h
   refine TT.ct rfl rfl c82 ?_
   refine TT.skip ?_
   refine TT.sq rfl ?_
   refine TT.bk rfl ?_
   refine TT.sq rfl ?_
   refine TT.rg [0,1,2] [kp,kp,kp] rfl rfl ?_
   obtain ⟨g84,h85⟩:=req_some h83
   obtain ⟨g86,h87⟩:=req_some h85
   refine DL.pu 10 (elp a0_v x8_3.toNat) rfl (p_slIx1 ty_u31 ty_s5 (RowV.some hr_a0 g84 g86) g84 g86 rfl rfl rfl) ?_
   refine DL.imm (v:=.int .u8 (a0.getD x8_3.toNat 0)) rfl (Wn.none rfl) rfl rfl rfl (i_loadEl (RowV.mono hr_a0 hE.mi) (encl_get .u8 (lt_len g84 g86)) ty_a5 rfl rfl) ?_
   refine DL.pu 5 (.int .u8 (a0.getD x8_3.toNat 0)) rfl (p_assign rfl rfl) ?_
   refine DL.nil ?_
   refine TT.rgD [0,1,2,3,4,5,6,7,8,9] [0,0,2,6,0,16,48,126,255,511] [kp,kp,kp,kp,kp,kp,kp,kA,kx,kp] rfl mixed (by kernel_rfl) ?_
   intro w88 hl88 hj88 hz88
   refine DL.mv 12 (y_2_v) rfl rfl rfl ?_
   refine DL.mv 13 (.int .u8 (a0.getD x8_3.toNat 0)) rfl rfl rfl ?_
   refine DL.pu 14 (.int .u8 (ishr .u8 (a0.getD x8_3.toNat 0) 4)) rfl (p_shr (by decide) rfl rfl rfl) ?_
   obtain ⟨g89,h90⟩:=req_some h87
   obtain ⟨g91,h92⟩:=req_some h90
   obtain ⟨t93,e94,h95⟩:=nm_some h92
   refine DL.pu 15 (.int .u8 t93) rfl (by rw [e94]; exact p_strIndex ty_u9 g89 g91 rfl rfl rfl) ?_
   refine DL.mv 16 (.int .u8 (a0.getD x8_3.toNat 0)) rfl rfl rfl ?_
   refine DL.pu 17 (.int .u8 (iand .u8 (a0.getD x8_3.toNat 0) 15)) rfl (p_and rfl rfl rfl) ?_
   obtain ⟨g96,h97⟩:=req_some h95
   obtain ⟨g98,h99⟩:=req_some h97
   obtain ⟨t100,e101,h102⟩:=nm_some h99
   refine DL.pu 18 (.int .u8 t100) rfl (by rw [e101]; exact p_strIndex ty_u9 g96 g98 rfl rfl rfl) ?_
   refine DL.newSl (zs:=[t93,t100]) (n:=2) rfl (by decide) (i:=7) rfl (Wn.none rfl) rfl rfl rfl (f_buildSl (n:=2) (zs:=[t93,t100]) (vs:=[(0,.int .u8 t93),(1,.int .u8 t100)]) elem31 rfl rfl (by kernel_rfl) rfl (args_val2 rfl)) ?_
   intro s104_v s104_c ho_s104
   obtain ⟨g105,h106⟩:=req_some h102
   refine DL.appendI (fun s107_v s107_c => [(Value.ownBlock s104_v,.cells s104_c 5 (0,0)),(Value.ownBlock s107_v,.cells s107_c 5 (0,0))]) elem31 (j:=1) rfl ho_y_2 g105 (by decide) (fun w hc => IntOwn.src (i:=0) ho_s104 hc rfl) (i:=8) rfl (Wn.none rfl) rfl rfl rfl rfl rfl rfl (fun _ _ => rfl) ?_
   intro s107_v s107_c ho_s107
   refine DL.pu 3 (s107_v) rfl (p_assign rfl rfl) ?_
   refine DL.nil' hl88 ?_
   refine TT.inBlock ?_
   refine TT.rg [0,1] [kp,kp] rfl rfl ?_
   refine DL.pu 21 (.int .i64 (IntKind.i64.wrap (x8_3 + 1))) rfl (p_add rfl rfl rfl) ?_
   refine DL.mv 8 (.int .i64 (IntKind.i64.wrap (x8_3 + 1))) rfl rfl rfl ?_
   refine DL.nil ?_
   refine TT.inLoop ?_
   exact TT.pick [1] (by decide) (TT.weak (ih (y_2 ++ [t93,t100]) (IntKind.i64.wrap (x8_3 + 1)) s107_v s107_c r0_ ho_s107 h106 hk) (Sub.cons rfl (Sub.cons rfl (Sub.cons rfl (Sub.cons rfl (Sub.nil _))))))
  ·
   replace c82:=Bool.eq_false_iff.mpr c82
   have h108:=ite_false c82 h
   refine TT.cf rfl rfl c82 ?_
   refine TT.exit rfl ?_
   obtain rfl:=Option.some.inj h108
   exact TT.weak (hk y_2_v y_2_c ho_y_2) (Sub.cons rfl (Sub.nil _))

def wire_Hex.f (a0 : List Int) : Option ((List UInt8)):=(wire_Hex.L0 a0 ((a0.length : Int).toNat + 1) z0 0).bind fun z_o1_81 => some (bytesL z_o1_81)
set_option maxRecDepth 20000 in
theorem wire_Hex.ok {a0 : List Int} {a0_v : Value} {r : List UInt8} (h : wire_Hex.f a0 = some r) {M : Mem} (w : World) (hM : Ext M (heapOf w)) (hr_a0 : IntRow M .u8 a0_v a0) : Calls Tryz.prog 86 #[a0_v] w (Post (fun u => u = str r) w):=by
 unfold wire_Hex.f at h
 have hE:=Env.start hM
 refine calls_of_TT (N:=24) (S:=[(0,a0_v)]) (c:=B86) Tryz.func86 rfl rfl rfl (by simp) ?_
 show TT _ _ _ _ _ _ [.code (sub [] B86)] _ _
 refine TT.sq rfl ?_
 refine TT.rg [0] [kp] rfl rfl ?_
 refine DL.pu 2 (str zU) rfl (p_assign rfl rfl) ?_
 refine DL.nil ?_
 refine TT.sq rfl ?_
 refine TT.rg [0] [kp] rfl rfl ?_
 refine DL.pu 3 nS rfl (p_assign rfl rfl) ?_
 refine DL.nil ?_
 refine TT.sq rfl ?_
 refine TT.sq rfl ?_
 refine TT.rg [0,1,2] [kp,kp,kp] rfl rfl ?_
 refine DL.mv 6 (a0_v) rfl rfl rfl ?_
 refine DL.pu 7 (.int .i64 (a0.length : Int)) rfl (p_slLen ty_u31 (RowV.sl hr_a0) rfl rfl) ?_
 refine DL.mv 8 (.int .i64 0) rfl rfl rfl ?_
 refine DL.nil ?_
 refine TT.bk rfl ?_
 refine TT.nilOwn (e:=5) ?_
 refine TT.lp rfl ?_
 obtain ⟨z_o1_81,h109,h110⟩:=bind_some h
 refine TT.weak (wire_Hex.L0_ok a0 a0_v hE hr_a0 ((a0.length : Int).toNat + 1) z0 0 nS (#[]) z_o1_81 (IntOwn.nil .u8) h109 (fun z_o1_81_v z_o1_81_c ho_z_o1_81 => ?_)) (Sub.cons rfl (Sub.cons rfl (Sub.cons rfl (Sub.cons rfl (Sub.nil _)))))
 refine TT.sq rfl ?_
 refine TT.rg [0,1,2] [kp,kq,kp] rfl rfl ?_
 refine DL.mv 22 (z_o1_81_v) rfl rfl rfl ?_
 refine DL.qu 23 (str (bytesL z_o1_81)) rfl (q_bytesStr ty_us31 ty_us5 ty_us9 (fun w hc => IntOwn.row (i:=0) ho_z_o1_81 hc rfl) rfl rfl) ?_
 refine DL.pu 2 (str (bytesL z_o1_81)) rfl (p_assign rfl rfl) ?_
 refine DL.nil ?_
 obtain rfl:=Option.some.inj h110
 exact retnE (rs:=[.tmp 2]) (vs:=[str (bytesL z_o1_81)]) hE.base Tryz.func86 rfl rfl rfl (res_cons (ResV.tmp rfl) res_nil) rfl
theorem wire_Hex.val {a0 : List Int} {a0_v : Value} {r : List UInt8} (h : wire_Hex.f a0 = some r) {M : Mem} (w : World) (hM : Ext M (heapOf w)) (hr_a0 : IntRow M .u8 a0_v a0) : Calls Tryz.prog 86 #[a0_v] w fun e w' => e = .returned (str r) ∧ Below w.heap.size w w' :=
 calls_value (wire_Hex.ok h w hM hr_a0)

/-! ### escutcheon/script.digits: function 68 -/
noncomputable def B68 : Code:=bodyOf Tryz.f68
def script_digits.f (a0 : List Int) : Option ((List UInt8)):=if ((a0.length : Int) == 0) = true then (some [45]) else ((wire_Hex.f a0).bind fun t4 => some t4)
set_option maxRecDepth 20000 in
theorem script_digits.ok {a0 : List Int} {a0_v : Value} {r : List UInt8} (h : script_digits.f a0 = some r) {M : Mem} (w : World) (hM : Ext M (heapOf w)) (hr_a0 : IntRow M .u8 a0_v a0) : Calls Tryz.prog 68 #[a0_v] w (Post (fun u => u = str r) w):=by
 unfold script_digits.f at h
 have hE:=Env.start hM
 refine calls_of_TT (N:=8) (S:=[(0,a0_v)]) (c:=B68) Tryz.func68 rfl rfl rfl (by simp) ?_
 show TT _ _ _ _ _ _ [.code (sub [] B68)] _ _
 refine TT.sq rfl ?_
 refine TT.rg [0] [kp] rfl rfl ?_
 refine DL.pu 2 (str zU) rfl (p_assign rfl rfl) ?_
 refine DL.nil ?_
 refine TT.sq rfl ?_
 refine TT.sq rfl ?_
 refine TT.rg [0,1,2] [kp,kp,kp] rfl rfl ?_
 refine DL.mv 3 (a0_v) rfl rfl rfl ?_
 refine DL.pu 4 (.int .i64 (a0.length : Int)) rfl (p_slLen ty_u31 (RowV.sl hr_a0) rfl rfl) ?_
 refine DL.pu 5 (.bool ((a0.length : Int) == 0)) rfl (p_eql rfl rfl rfl) ?_
 refine DL.nil ?_
 by_cases c1 : ((a0.length : Int) == 0) = true
 ·
  have h2:=ite_true c1 h
  refine TT.ct rfl rfl c1 ?_
  refine TT.sq rfl ?_
  refine TT.rg [0] [kp] rfl rfl ?_
  refine DL.pu 2 (str [45]) rfl (p_assign rfl rfl) ?_
  refine DL.nil ?_
  obtain rfl:=Option.some.inj h2
  exact retnE (rs:=[.tmp 2]) (vs:=[str [45]]) hE.base Tryz.func68 rfl rfl rfl (res_cons (ResV.tmp rfl) res_nil) rfl
 ·
  replace c1:=Bool.eq_false_iff.mpr c1
  have h3:=ite_false c1 h
  refine TT.cf rfl rfl c1 ?_
  refine TT.skip ?_
  refine TT.sq rfl ?_
  refine TT.rg [0,1,2] [kp,kq,kp] rfl rfl ?_
  refine DL.mv 6 (a0_v) rfl rfl rfl ?_
  obtain ⟨t4,h5,h6⟩:=bind_some h3
  refine DL.qu 7 (str t4) rfl (f_callR rfl rfl (args_val (vs:=[a0_v]) rfl) (fun w => enter86 _ w) (fun w hc => wire_Hex.val h5 (M:=M) w (hE.ext hc) hr_a0)) ?_
  refine DL.pu 2 (str t4) rfl (p_assign rfl rfl) ?_
  refine DL.nil ?_
  obtain rfl:=Option.some.inj h6
  exact retnE (rs:=[.tmp 2]) (vs:=[str t4]) hE.base Tryz.func68 rfl rfl rfl (res_cons (ResV.tmp rfl) res_nil) rfl
theorem script_digits.val {a0 : List Int} {a0_v : Value} {r : List UInt8} (h : script_digits.f a0 = some r) {M : Mem} (w : World) (hM : Ext M (heapOf w)) (hr_a0 : IntRow M .u8 a0_v a0) : Calls Tryz.prog 68 #[a0_v] w fun e w' => e = .returned (str r) ∧ Below w.heap.size w w' :=
 calls_value (script_digits.ok h w hM hr_a0)

/-! ### escutcheon/escutcheonref21.Has: function 103 -/
/-! ### escutcheon/escutcheonref21.Text: function 64 -/
/-! ### escutcheon/policy.Text: function 90 -/
noncomputable def B90 : Code:=bodyOf Tryz.f90
def policy_Text.L0 (a0 : Int) : Nat → (List (List UInt8)) → Int → Option (List (List UInt8))
 | 0,_,_ => none
 | k + 1,y_13,x11_14 => if (decide (x11_14 < 6)) = true then (req (0 ≤ x11_14) ((if ((iand .i64 (ishr .i64 a0 x11_14) 1) == 1) = true then (req (x11_14 < (([[101,120,112,111,114,116],[119,114,97,112,112,101,100],[115,105,103,110],[119,114,97,112],[100,101,114,105,118,101],[97,116,116,101,115,116]] : List (List UInt8)).length : Int)) (req (y_13.length + ([([[101,120,112,111,114,116],[119,114,97,112,112,101,100],[115,105,103,110],[119,114,97,112],[100,101,114,105,118,101],[97,116,116,101,115,116]] : List (List UInt8)).getD x11_14.toNat []] : List (List UInt8)).length ≤ 1099511627776) (some (y_13 ++ ([([[101,120,112,111,114,116],[119,114,97,112,112,101,100],[115,105,103,110],[119,114,97,112],[100,101,114,105,118,101],[97,116,116,101,115,116]] : List (List UInt8)).getD x11_14.toNat []] : List (List UInt8)))))) else (some y_13)).bind fun j_o12_93 => policy_Text.L0 a0 k j_o12_93 (IntKind.i64.wrap (x11_14 + 1)))) else (some y_13)
set_option maxRecDepth 20000 in
theorem policy_Text.L0_ok (a0 : Int) {R : Ending → World → Prop} {w0 : World} {M0 M I : Mem} {K : List Item} (hE : Env w0 M0 M I) :
  ∀ (k : Nat) (y_13 : List (List UInt8)) (x11_14 : Int) (y_13_v : Value) (y_13_c : Array Value) (r0_ : List (List UInt8)) (ho_y_13 : OwnS Sh.str M y_13_v y_13_c y_13) (h : policy_Text.L0 a0 k y_13 x11_14 = some r0_) (hk : ∀ (z_o12_87_v : Value),∀ (z_o12_87_c : Array Value),OwnS Sh.str M z_o12_87_v z_o12_87_c r0_ → TT Tryz.prog 90 R 29 w0 I K [(3,z_o12_87_v)] [(Value.ownBlock z_o12_87_v,.cells z_o12_87_c 9 (0,0))]),
   TT Tryz.prog 90 R 29 w0 I (.code (sub [1,1,1,0,1,0,0] B90) :: .inLoop (sub [1,1,1,0,1,0,0] B90) :: .inBlock 0 :: K) [(0,.int .i64 a0),(3,y_13_v),(11,.int .i64 x11_14)] [(Value.ownBlock y_13_v,.cells y_13_c 9 (0,0))]:=by
 intro k
 induction k with
 | zero => intro y_13 x11_14 y_13_v y_13_c r0_ ho_y_13 h; simp [policy_Text.L0] at h
 | succ k ih =>
  intro y_13 x11_14 y_13_v y_13_c r0_ ho_y_13 h hk
  unfold policy_Text.L0 at h
  refine TT.sq rfl ?_
  refine TT.rg [0] [kp] rfl rfl ?_
  refine DL.pu 12 (.bool (decide (x11_14 < 6))) rfl (p_lss rfl rfl rfl) ?_
  refine DL.nil ?_
  refine TT.sq rfl ?_
  by_cases c88 : (decide (x11_14 < 6)) = true
  ·
   have h89:=ite_true c88 h
   refine TT.ct rfl rfl c88 ?_
   refine TT.skip ?_
   refine TT.sq rfl ?_
   refine TT.bk rfl ?_
   refine TT.sq rfl ?_
   refine TT.rg [0,1] [kp,kp] rfl rfl ?_
   refine DL.mv 13 (.int .i64 x11_14) rfl rfl rfl ?_
   refine DL.pu 4 (.int .i64 x11_14) rfl (p_assign rfl rfl) ?_
   refine DL.nil ?_
   refine TT.sq rfl ?_
   refine TT.rg [0,1,2,3,4] [kp,kp,kp,kp,kp] rfl rfl ?_
   refine DL.mv 14 (.int .i64 a0) rfl rfl rfl ?_
   refine DL.mv 15 (.int .i64 x11_14) rfl rfl rfl ?_
   obtain ⟨g90,h91⟩:=req_some h89
   refine DL.pu 16 (.int .i64 (ishr .i64 a0 x11_14)) rfl (p_shr g90 rfl rfl rfl) ?_
   refine DL.pu 17 (.int .i64 (iand .i64 (ishr .i64 a0 x11_14) 1)) rfl (p_and rfl rfl rfl) ?_
   refine DL.pu 18 (.bool ((iand .i64 (ishr .i64 a0 x11_14) 1) == 1)) rfl (p_eql rfl rfl rfl) ?_
   refine DL.nil ?_
   obtain ⟨j_o12_93,h94,h95⟩:=bind_some h91
   have J96 : ∀ (j_o12_93_v : Value),∀ (j_o12_93_c : Array Value),OwnS Sh.str M j_o12_93_v j_o12_93_c j_o12_93 → TT Tryz.prog 90 R 29 w0 I (.inBlock 1 :: .code (sub [1,1,1,0,1,0,0,1,1,1] B90) :: .inLoop (sub [1,1,1,0,1,0,0] B90) :: .inBlock 0 :: K) [(0,.int .i64 a0),(3,j_o12_93_v),(11,.int .i64 x11_14)] [(Value.ownBlock j_o12_93_v,.cells j_o12_93_c 9 (0,0))]:=by
    intro j_o12_93_v j_o12_93_c ho_j_o12_93
    refine TT.inBlock ?_
    refine TT.rg [0,1] [kp,kp] rfl rfl ?_
    refine DL.pu 26 (.int .i64 (IntKind.i64.wrap (x11_14 + 1))) rfl (p_add rfl rfl rfl) ?_
    refine DL.mv 11 (.int .i64 (IntKind.i64.wrap (x11_14 + 1))) rfl rfl rfl ?_
    refine DL.nil ?_
    refine TT.inLoop ?_
    exact TT.weak (ih j_o12_93 (IntKind.i64.wrap (x11_14 + 1)) j_o12_93_v j_o12_93_c r0_ ho_j_o12_93 h95 hk) (Sub.cons rfl (Sub.cons rfl (Sub.cons rfl (Sub.nil _))))
   by_cases c92 : ((iand .i64 (ishr .i64 a0 x11_14) 1) == 1) = true
   ·
    have h98:=ite_true c92 h94
    refine TT.ct rfl rfl c92 ?_
    refine TT.rg [0,1,2,3,4,5,6,7] [kp,kA,kp,kp,kq,kA,kx,kp] rfl rfl ?_
    refine DL.mv 19 (y_13_v) rfl rfl rfl ?_
    refine DL.newS (M:=M) (s:=Sh.str) (zs:=([[101,120,112,111,114,116],[119,114,97,112,112,101,100],[115,105,103,110],[119,114,97,112],[100,101,114,105,118,101],[97,116,116,101,115,116]] : List (List UInt8))) (cells:=[str [101,120,112,111,114,116],str [119,114,97,112,112,101,100],str [115,105,103,110],str [119,114,97,112],str [100,101,114,105,118,101],str [97,116,116,101,115,116]]) (n:=6) rfl (by decide) rfl (fun i x hx => by match i,hx with | 0,hx => cases hx; exact rfl | 1,hx => cases hx; exact rfl | 2,hx => cases hx; exact rfl | 3,hx => cases hx; exact rfl | 4,hx => cases hx; exact rfl | 5,hx => cases hx; exact rfl | k + 6,hx => simp at hx) (i:=1) rfl (Wn.none rfl) rfl rfl rfl (f_buildS (n:=6) (vs:=[(0,str [101,120,112,111,114,116]),(1,str [119,114,97,112,112,101,100]),(2,str [115,105,103,110]),(3,str [119,114,97,112]),(4,str [100,101,114,105,118,101]),(5,str [97,116,116,101,115,116])]) elem46 rfl rfl (by kernel_rfl) rfl (args_val2 rfl)) ?_
    intro s100_v s100_c ho_s100
    refine DL.mv 21 (.int .i64 x11_14) rfl rfl rfl ?_
    obtain ⟨g101,h102⟩:=req_some h98
    refine DL.pu 22 (elp s100_v x11_14.toNat) rfl (p_slIx1 ty_u46 ty_s9 (OwnS.some ho_s100 g90 g101) g90 g101 rfl rfl rfl) ?_
    refine DL.qu 23 (str (([[101,120,112,111,114,116],[119,114,97,112,112,101,100],[115,105,103,110],[119,114,97,112],[100,101,114,105,118,101],[97,116,116,101,115,116]] : List (List UInt8)).getD x11_14.toNat [])) rfl (f_loadEl (i:=0) rfl (OwnS.strs ho_s100) (strs_get (lt_len g90 g101)) ty_a9 rfl rfl) ?_
    refine DL.newS (M:=M) (s:=Sh.str) (zs:=([([[101,120,112,111,114,116],[119,114,97,112,112,101,100],[115,105,103,110],[119,114,97,112],[100,101,114,105,118,101],[97,116,116,101,115,116]] : List (List UInt8)).getD x11_14.toNat []] : List (List UInt8))) (cells:=[str (([[101,120,112,111,114,116],[119,114,97,112,112,101,100],[115,105,103,110],[119,114,97,112],[100,101,114,105,118,101],[97,116,116,101,115,116]] : List (List UInt8)).getD x11_14.toNat [])]) (n:=1) rfl (by decide) rfl (fun i x hx => by match i,hx with | 0,hx => cases hx; exact rfl | k + 1,hx => simp at hx) (i:=5) rfl (Wn.none rfl) rfl rfl rfl (f_buildS (n:=1) (vs:=[(0,str (([[101,120,112,111,114,116],[119,114,97,112,112,101,100],[115,105,103,110],[119,114,97,112],[100,101,114,105,118,101],[97,116,116,101,115,116]] : List (List UInt8)).getD x11_14.toNat []))]) elem46 rfl rfl (by kernel_rfl) rfl (args_val2 rfl)) ?_
    intro s104_v s104_c ho_s104
    obtain ⟨g105,h106⟩:=req_some h102
    refine DL.appendS (M:=M) (s:=Sh.str) (fun s107_v s107_c => [(Value.ownBlock s104_v,.cells s104_c 9 (0,0)),(Value.ownBlock s100_v,.cells s100_c 9 (0,0)),(Value.ownBlock s107_v,.cells s107_c 9 (0,0))]) elem46 (j:=2) rfl ho_y_13 g105 (by decide) (OwnS.src (i:=0) ho_s104 rfl) (i:=6) rfl (Wn.none rfl) rfl rfl rfl rfl rfl rfl (fun _ _ => rfl) ?_
    intro s107_v s107_c ho_s107
    refine DL.pu 3 (s107_v) rfl (p_assign rfl rfl) ?_
    refine DL.nil ?_
    obtain rfl:=Option.some.inj h106
    exact TT.pick [2] (by decide) (TT.weak (J96 s107_v s107_c ho_s107) (Sub.cons rfl (Sub.cons rfl (Sub.cons rfl (Sub.nil _)))))
   ·
    replace c92:=Bool.eq_false_iff.mpr c92
    have h108:=ite_false c92 h94
    refine TT.cf rfl rfl c92 ?_
    refine TT.skip ?_
    obtain rfl:=Option.some.inj h108
    exact TT.weak (J96 y_13_v y_13_c ho_y_13) (Sub.cons rfl (Sub.cons rfl (Sub.cons rfl (Sub.nil _))))
  ·
   replace c88:=Bool.eq_false_iff.mpr c88
   have h109:=ite_false c88 h
   refine TT.cf rfl rfl c88 ?_
   refine TT.exit rfl ?_
   obtain rfl:=Option.some.inj h109
   exact TT.weak (hk y_13_v y_13_c ho_y_13) (Sub.cons rfl (Sub.nil _))

def policy_Text.f (a0 : Int) : Option ((List UInt8)):=(if (decide (a0 ≤ 0)) = true then (some true) else (some (decide (63 < a0)))).bind fun q2 => if q2 = true then (some [45]) else ((policy_Text.L0 a0 7 ([] : List (List UInt8)) 0).bind fun z_o12_87 => req (z_o12_87.length ≤ 140737488355328) (req ((joinL z_o12_87 [43]).length ≤ 140737488355328) (nm (joinL z_o12_87 [43]) fun t117 => some t117)))
set_option maxRecDepth 20000 in
theorem policy_Text.ok {a0 : Int} {r : List UInt8} (h : policy_Text.f a0 = some r) {M : Mem} (w : World) (hM : Ext M (heapOf w)) : Calls Tryz.prog 90 #[.int .i64 a0] w (Post (fun u => u = str r) w):=by
 unfold policy_Text.f at h
 have hE:=Env.start hM
 refine calls_of_TT (N:=29) (S:=[(0,.int .i64 a0)]) (c:=B90) Tryz.func90 rfl rfl rfl (by simp) ?_
 show TT _ _ _ _ _ _ [.code (sub [] B90)] _ _
 refine TT.sq rfl ?_
 refine TT.rg [0] [kp] rfl rfl ?_
 refine DL.pu 2 (str zU) rfl (p_assign rfl rfl) ?_
 refine DL.nil ?_
 refine TT.sq rfl ?_
 refine TT.sq rfl ?_
 refine TT.rg [0,1,2,3,4,5] [kp,kp,kp,kp,kp,kp] rfl rfl ?_
 refine DL.mv 5 (.int .i64 a0) rfl rfl rfl ?_
 refine DL.pu 6 (.bool (decide (a0 ≤ 0))) rfl (p_leq rfl rfl rfl) ?_
 refine DL.mv 7 (.bool (decide (a0 ≤ 0))) rfl rfl rfl ?_
 obtain ⟨q2,h3,h4⟩:=bind_some h
 refine DL.cut [(0,.int .i64 a0),(10,.bool q2)] [] ?_ (fun J5 => ?_)
 ·
  refine DL.nil ?_
  by_cases c9 : q2 = true
  ·
   have h10:=ite_true c9 h4
   refine TT.ct rfl rfl c9 ?_
   refine TT.sq rfl ?_
   refine TT.rg [0] [kp] rfl rfl ?_
   refine DL.pu 2 (str [45]) rfl (p_assign rfl rfl) ?_
   refine DL.nil ?_
   obtain rfl:=Option.some.inj h10
   exact retnE (rs:=[.tmp 2]) (vs:=[str [45]]) hE.base Tryz.func90 rfl rfl rfl (res_cons (ResV.tmp rfl) res_nil) rfl
  ·
   replace c9:=Bool.eq_false_iff.mpr c9
   have h11:=ite_false c9 h4
   refine TT.cf rfl rfl c9 ?_
   refine TT.skip ?_
   refine TT.sq rfl ?_
   refine TT.rg [0] [kp] rfl rfl ?_
   refine DL.pu 3 nS rfl (p_assign rfl rfl) ?_
   refine DL.nil ?_
   refine TT.sq rfl ?_
   refine TT.sq rfl ?_
   refine TT.rg [0] [kp] rfl rfl ?_
   refine DL.mv 11 (.int .i64 0) rfl rfl rfl ?_
   refine DL.nil ?_
   refine TT.bk rfl ?_
   refine TT.nilOwn (e:=9) ?_
   refine TT.lp rfl ?_
   obtain ⟨z_o12_87,h110,h111⟩:=bind_some h11
   refine TT.weak (policy_Text.L0_ok a0 hE 7 ([] : List (List UInt8)) 0 nS (#[]) z_o12_87 (OwnS.nil Sh.str M) h110 (fun z_o12_87_v z_o12_87_c ho_z_o12_87 => ?_)) (Sub.cons rfl (Sub.cons rfl (Sub.cons rfl (Sub.nil _))))
   refine TT.sq rfl ?_
   refine TT.rg [0,1,2] [kp,kq,kp] rfl rfl ?_
   refine DL.mv 27 (z_o12_87_v) rfl rfl rfl ?_
   obtain ⟨g113,h114⟩:=req_some h111
   obtain ⟨g115,h116⟩:=req_some h114
   obtain ⟨t117,e118,h119⟩:=nm_some h116
   refine DL.qu 28 (str t117) rfl (by rw [e118]; exact f_callR rfl rfl (args_val (vs:=[z_o12_87_v,str [43]]) rfl) (fun w => enter69 _ w) (fun w hc => join_ok (i:=0) _ ho_z_o12_87 hc rfl g113 g115)) ?_
   refine DL.pu 2 (str t117) rfl (p_assign rfl rfl) ?_
   refine DL.nil ?_
   obtain rfl:=Option.some.inj h119
   exact retnE (rs:=[.tmp 2]) (vs:=[str t117]) hE.base Tryz.func90 rfl rfl rfl (res_cons (ResV.tmp rfl) res_nil) rfl
 ·
  by_cases c6 : (decide (a0 ≤ 0)) = true
  ·
   have h7:=ite_true c6 h3
   refine DL.not rfl (Wn.yes c6 rfl rfl rfl rfl) rfl rfl ?_
   refine DL.not rfl (Wn.yes c6 rfl rfl rfl rfl) rfl rfl ?_
   refine DL.pu 10 (.bool true) rfl (p_pick_t c6 rfl rfl rfl) ?_
   obtain rfl:=Option.some.inj h7
   exact DL.weak J5 (Sub.cons rfl (Sub.cons rfl (Sub.nil _)))
  ·
   replace c6:=Bool.eq_false_iff.mpr c6
   have h8:=ite_false c6 h3
   refine DL.pure (v:=.int .i64 a0) rfl (Wn.no c6 rfl rfl rfl rfl) rfl rfl rfl (p_move rfl rfl) ?_
   refine DL.pure (v:=.bool (decide (63 < a0))) rfl (Wn.no c6 rfl rfl rfl rfl) rfl rfl rfl (p_gtr rfl rfl rfl) ?_
   refine DL.pu 10 (.bool (decide (63 < a0))) rfl (p_pick_f c6 rfl rfl rfl) ?_
   obtain rfl:=Option.some.inj h8
   exact DL.weak J5 (Sub.cons rfl (Sub.cons rfl (Sub.nil _)))
theorem policy_Text.val {a0 : Int} {r : List UInt8} (h : policy_Text.f a0 = some r) {M : Mem} (w : World) (hM : Ext M (heapOf w)) : Calls Tryz.prog 90 #[.int .i64 a0] w fun e w' => e = .returned (str r) ∧ Below w.heap.size w w' :=
 calls_value (policy_Text.ok h w hM)

/-! ### escutcheon/escutcheonref20.Names: function 57 -/
/-! ### escutcheon/escutcheonref20.has: function 101 -/
/-! ### escutcheon/escutcheonref31.types: function 58 -/
/-! ### escutcheon/escutcheonref31.commands: function 56 -/
/-! ### escutcheon/escutcheonref31.Names: function 39 -/
noncomputable def B39 : Code:=bodyOf Tryz.f39
def ref31_Names.f : Option ((List (List UInt8))):=some ([zU,[104,101,108,108,111],[115,101,110,100],[114,101,115,101,110,100],[103,105,118,101],[116,97,107,101],[102,111,114,103,101],[116,117,114,110],[116,105,99,107],[102,117,115,101],[99,114,97,115,104],[117,112],[101,100,105,116],[115,97,118,101],[98,97,99,107]] : List (List UInt8))
set_option maxRecDepth 20000 in
theorem ref31_Names.ok {r : List (List UInt8)} (h : ref31_Names.f = some r) {M : Mem} (w : World) (hM : Ext M (heapOf w)) : Calls Tryz.prog 39 #[] w (PostF (G:=Value) (fun g => g) (fun g M_ => (RowS Sh.str M_ g r)) M w):=by
 unfold ref31_Names.f at h
 have hE:=Env.start hM
 refine calls_of_TT (N:=2) (S:=[]) (c:=B39) Tryz.func39 rfl rfl rfl (by simp) ?_
 show TT _ _ _ _ _ _ [.code (sub [] B39)] _ _
 refine TT.sq rfl ?_
 refine TT.rg [0] [kp] rfl rfl ?_
 refine DL.pu 0 nS rfl (p_assign rfl rfl) ?_
 refine DL.nil ?_
 refine TT.sq rfl ?_
 refine TT.rg [0,1] [kA,kp] rfl rfl ?_
 refine DL.newS (M:=M) (s:=Sh.str) (zs:=([zU,[104,101,108,108,111],[115,101,110,100],[114,101,115,101,110,100],[103,105,118,101],[116,97,107,101],[102,111,114,103,101],[116,117,114,110],[116,105,99,107],[102,117,115,101],[99,114,97,115,104],[117,112],[101,100,105,116],[115,97,118,101],[98,97,99,107]] : List (List UInt8))) (cells:=[str zU,str [104,101,108,108,111],str [115,101,110,100],str [114,101,115,101,110,100],str [103,105,118,101],str [116,97,107,101],str [102,111,114,103,101],str [116,117,114,110],str [116,105,99,107],str [102,117,115,101],str [99,114,97,115,104],str [117,112],str [101,100,105,116],str [115,97,118,101],str [98,97,99,107]]) (n:=15) rfl (by decide) rfl (fun i x hx => by match i,hx with | 0,hx => cases hx; exact rfl | 1,hx => cases hx; exact rfl | 2,hx => cases hx; exact rfl | 3,hx => cases hx; exact rfl | 4,hx => cases hx; exact rfl | 5,hx => cases hx; exact rfl | 6,hx => cases hx; exact rfl | 7,hx => cases hx; exact rfl | 8,hx => cases hx; exact rfl | 9,hx => cases hx; exact rfl | 10,hx => cases hx; exact rfl | 11,hx => cases hx; exact rfl | 12,hx => cases hx; exact rfl | 13,hx => cases hx; exact rfl | 14,hx => cases hx; exact rfl | k + 15,hx => simp at hx) (i:=0) rfl (Wn.none rfl) rfl rfl rfl (f_buildS (n:=15) (vs:=[(0,str zU),(1,str [104,101,108,108,111]),(2,str [115,101,110,100]),(3,str [114,101,115,101,110,100]),(4,str [103,105,118,101]),(5,str [116,97,107,101]),(6,str [102,111,114,103,101]),(7,str [116,117,114,110]),(8,str [116,105,99,107]),(9,str [102,117,115,101]),(10,str [99,114,97,115,104]),(11,str [117,112]),(12,str [101,100,105,116]),(13,str [115,97,118,101]),(14,str [98,97,99,107])]) elem46 rfl rfl (by kernel_rfl) rfl (args_val2 rfl)) ?_
 intro s2_v s2_c ho_s2
 refine DL.pu 0 (s2_v) rfl (p_assign rfl rfl) ?_
 refine DL.nil ?_
 refine TT.freezeAt (j:=0) hE rfl ?_
 intro M3 I3 hE3 hx3 hxI3 hb3
 have hr_3 : RowS Sh.str M3 s2_v ([zU,[104,101,108,108,111],[115,101,110,100],[114,101,115,101,110,100],[103,105,118,101],[116,97,107,101],[102,111,114,103,101],[116,117,114,110],[116,105,99,107],[102,117,115,101],[99,114,97,115,104],[117,112],[101,100,105,116],[115,97,118,101],[98,97,99,107]] : List (List UInt8)):=OwnS.stays ho_s2 hx3 hb3
 show TT _ _ _ _ _ _ _ _ []
 obtain rfl:=Option.some.inj h
 exact retF (rs:=[.tmp 0]) (vs:=[s2_v]) s2_v hE3 Tryz.func39 rfl rfl rfl (res_cons (ResV.tmp rfl) res_nil) hr_3

/-! ### escutcheon/escutcheonref31.Parts: function 40 -/
/-! ### escutcheon/escutcheonref31.has: function 41 -/
end Go.Proofs.YthldgjbmjgjogaaGreatDoor
