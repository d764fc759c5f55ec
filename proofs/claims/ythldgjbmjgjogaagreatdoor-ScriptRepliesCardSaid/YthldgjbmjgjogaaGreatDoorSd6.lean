import Derived.Test.YthldgjbmjgjogaaGreatDoorSd5
namespace Go.Proofs.YthldgjbmjgjogaaGreatDoor
open Go Go.HW Go.RowKit
set_option linter.unusedVariables false
set_option linter.unusedSimpArgs false

/-! ### escutcheon/script.actText: function 37 -/
noncomputable def B37 : Code:=bodyOf Tryz.f37
def script_actText.L0 (a0 : Act) : Nat → (List (List UInt8)) → Int → Option (List (List UInt8))
 | 0,_,_ => none
 | k + 1,y_276,x26_277 => if (decide (x26_277 < (a0.picks.length : Int))) = true then (req (0 ≤ x26_277) (req (x26_277 < (a0.picks.length : Int)) (req (-9223372036854775808 ≤ (a0.picks.getD x26_277.toNat 0)) (req ((a0.picks.getD x26_277.toNat 0) ≤ 9223372036854775807) (nm (Lib.itoa (a0.picks.getD x26_277.toNat 0)) fun t358 => req (y_276.length + ([t358] : List (List UInt8)).length ≤ 1099511627776) (script_actText.L0 a0 k (y_276 ++ ([t358] : List (List UInt8))) (IntKind.i64.wrap (x26_277 + 1)))))))) else (some y_276)
set_option maxRecDepth 20000 in
theorem script_actText.L0_ok (a0 : Act) (a0_110 : Value) (b1 : Nat) (t8 : List UInt8) (b14 : Nat) (b275 : Nat) {R : Ending → World → Prop} {w0 : World} {M0 M I : Mem} {K : List Item} (hE : Env w0 M0 M I) (hG : Glob M) (hr_a0_110 : IntRow M .i64 a0_110 a0.picks) :
  ∀ (k : Nat) (y_276 : List (List UInt8)) (x26_277 : Int) (y_276_v : Value) (y_276_c : Array Value) (r0_ : List (List UInt8)) (ho_y_276 : OwnS Sh.str M y_276_v y_276_c y_276) (h : script_actText.L0 a0 k y_276 x26_277 = some r0_) (hk : ∀ (z_o16_347_v : Value),∀ (z_o16_347_c : Array Value),OwnS Sh.str M z_o16_347_v z_o16_347_c r0_ → TT Tryz.prog 37 R 111 w0 I K [(1,ptr b1 0),(4,z_o16_347_v),(18,ptr b275 0)] [(some b275,.stringIter ⟨#[112]⟩ 1),(Value.ownBlock z_o16_347_v,.cells z_o16_347_c 9 (0,0)),(some b14,.cells (#[str t8,str [112]]) 86 (0,0))]),
   TT Tryz.prog 37 R 111 w0 I (.code (sub [1,1,1,0,1,0,0,1,1,0,1,1,0,1,1,1,1,1,1,1,1,1,1,1,1,1,1,1,1,1,1,1,0,0] B37) :: .inLoop (sub [1,1,1,0,1,0,0,1,1,0,1,1,0,1,1,1,1,1,1,1,1,1,1,1,1,1,1,1,1,1,1,1,0,0] B37) :: .inBlock 3 :: K) [(1,ptr b1 0),(4,y_276_v),(18,ptr b275 0),(24,a0_110),(25,.int .i64 (a0.picks.length : Int)),(26,.int .i64 x26_277)] [(some b275,.stringIter ⟨#[112]⟩ 1),(Value.ownBlock y_276_v,.cells y_276_c 9 (0,0)),(some b14,.cells (#[str t8,str [112]]) 86 (0,0))]:=by
 intro k
 induction k with
 | zero => intro y_276 x26_277 y_276_v y_276_c r0_ ho_y_276 h; simp [script_actText.L0] at h
 | succ k ih =>
  intro y_276 x26_277 y_276_v y_276_c r0_ ho_y_276 h hk
  unfold script_actText.L0 at h
  refine TT.sq rfl ?_
  refine TT.rg [0] [kp] rfl rfl ?_
  refine DL.pu 27 (.bool (decide (x26_277 < (a0.picks.length : Int)))) rfl (p_lss rfl rfl rfl) ?_
  refine DL.nil ?_
  refine TT.sq rfl ?_
  by_cases c348 : (decide (x26_277 < (a0.picks.length : Int))) = true
  ·
   have h349:=ite_true c348 h
   refine TT.ct rfl rfl c348 ?_
   refine TT.skip ?_
   refine TT.sq rfl ?_
   refine TT.bk rfl ?_
   refine TT.sq rfl ?_
   refine TT.rg [0,1,2] [kp,kp,kp] rfl rfl ?_
   obtain ⟨g350,h351⟩:=req_some h349
   obtain ⟨g352,h353⟩:=req_some h351
   refine DL.pu 28 (elp a0_110 x26_277.toNat) rfl (p_slIx1 ty_u34 ty_s3 (RowV.some hr_a0_110 g350 g352) g350 g352 rfl rfl rfl) ?_
   refine DL.imm (v:=.int .i64 (a0.picks.getD x26_277.toNat 0)) rfl (Wn.none rfl) rfl rfl rfl (i_loadEl (RowV.mono hr_a0_110 hE.mi) (encl_get .i64 (lt_len g350 g352)) ty_a3 rfl rfl) ?_
   refine DL.pu 8 (.int .i64 (a0.picks.getD x26_277.toNat 0)) rfl (p_assign rfl rfl) ?_
   refine DL.nil ?_
   refine TT.rg [0,1,2,3,4,5] [kp,kp,kq,kA,kx,kp] rfl rfl ?_
   refine DL.mv 30 (y_276_v) rfl rfl rfl ?_
   refine DL.mv 31 (.int .i64 (a0.picks.getD x26_277.toNat 0)) rfl rfl rfl ?_
   obtain ⟨g354,h355⟩:=req_some h353
   obtain ⟨g356,h357⟩:=req_some h355
   obtain ⟨t358,e359,h360⟩:=nm_some h357
   refine DL.qu 32 (str t358) rfl (by rw [e359]; exact f_callR rfl rfl (args_val (vs:=[.int .i64 (a0.picks.getD x26_277.toNat 0)]) rfl) (fun w => enter63 _ w) (fun w hc => itoa_ok hG _ g354 g356 w (hE.ext hc))) ?_
   refine DL.newS (M:=M) (s:=Sh.str) (zs:=([t358] : List (List UInt8))) (cells:=[str t358]) (n:=1) rfl (by decide) rfl (fun i x hx => by match i,hx with | 0,hx => cases hx; exact rfl | k + 1,hx => simp at hx) (i:=3) rfl (Wn.none rfl) rfl rfl rfl (f_buildS (n:=1) (vs:=[(0,str t358)]) elem46 rfl rfl (by kernel_rfl) rfl (args_val2 rfl)) ?_
   intro s362_v s362_c ho_s362
   obtain ⟨g363,h364⟩:=req_some h360
   refine DL.appendS (M:=M) (s:=Sh.str) (fun s365_v s365_c => [(Value.ownBlock s362_v,.cells s362_c 9 (0,0)),(some b275,.stringIter ⟨#[112]⟩ 1),(Value.ownBlock s365_v,.cells s365_c 9 (0,0)),(some b14,.cells (#[str t8,str [112]]) 86 (0,0))]) elem46 (j:=2) rfl ho_y_276 g363 (by decide) (OwnS.src (i:=0) ho_s362 rfl) (i:=4) rfl (Wn.none rfl) rfl rfl rfl rfl rfl rfl (fun _ _ => rfl) ?_
   intro s365_v s365_c ho_s365
   refine DL.pu 4 (s365_v) rfl (p_assign rfl rfl) ?_
   refine DL.nil ?_
   refine TT.inBlock ?_
   refine TT.rg [0,1] [kp,kp] rfl rfl ?_
   refine DL.pu 35 (.int .i64 (IntKind.i64.wrap (x26_277 + 1))) rfl (p_add rfl rfl rfl) ?_
   refine DL.mv 26 (.int .i64 (IntKind.i64.wrap (x26_277 + 1))) rfl rfl rfl ?_
   refine DL.nil ?_
   refine TT.inLoop ?_
   exact TT.pick [1,2,3] (by decide) (TT.weak (ih (y_276 ++ ([t358] : List (List UInt8))) (IntKind.i64.wrap (x26_277 + 1)) s365_v s365_c r0_ ho_s365 h364 hk) (Sub.cons rfl (Sub.cons rfl (Sub.cons rfl (Sub.cons rfl (Sub.cons rfl (Sub.cons rfl (Sub.nil _))))))))
  ·
   replace c348:=Bool.eq_false_iff.mpr c348
   have h366:=ite_false c348 h
   refine TT.cf rfl rfl c348 ?_
   refine TT.exit rfl ?_
   obtain rfl:=Option.some.inj h366
   exact TT.weak (hk y_276_v y_276_c ho_y_276) (Sub.cons rfl (Sub.cons rfl (Sub.cons rfl (Sub.nil _))))

def script_actText.f (a0 : Act) : Option ((List UInt8)):=(script_forms.f).bind fun _ => nm (sfName a0.kind) fun t8 => nm (sfParts a0.kind) fun t11 => if (t11 == [99,102]) = true then (req (-9223372036854775808 ≤ a0.client) (req (a0.client ≤ 9223372036854775807) (nm (Lib.itoa a0.client) fun t24 => req (([t8] : List (List UInt8)).length + ([t24] : List (List UInt8)).length ≤ 1099511627776) ((wire_Hex.f (pad32 a0.first)).bind fun t33 => req ((([t8] : List (List UInt8)) ++ ([t24] : List (List UInt8))).length + ([t33] : List (List UInt8)).length ≤ 1099511627776) (req (((([t8] : List (List UInt8)) ++ ([t24] : List (List UInt8))) ++ ([t33] : List (List UInt8))).length ≤ 140737488355328) (req ((joinL ((([t8] : List (List UInt8)) ++ ([t24] : List (List UInt8))) ++ ([t33] : List (List UInt8))) [32]).length ≤ 140737488355328) (nm (joinL ((([t8] : List (List UInt8)) ++ ([t24] : List (List UInt8))) ++ ([t33] : List (List UInt8))) [32]) fun t45 => some t45))))))) else (if (t11 == [99,109]) = true then (req (-9223372036854775808 ≤ a0.client) (req (a0.client ≤ 9223372036854775807) (nm (Lib.itoa a0.client) fun t53 => req (([t8] : List (List UInt8)).length + ([t53] : List (List UInt8)).length ≤ 1099511627776) ((script_cmdText.f a0.cmd).bind fun t61 => req ((([t8] : List (List UInt8)) ++ ([t53] : List (List UInt8))).length + ([t61] : List (List UInt8)).length ≤ 1099511627776) (req (((([t8] : List (List UInt8)) ++ ([t53] : List (List UInt8))) ++ ([t61] : List (List UInt8))).length ≤ 140737488355328) (req ((joinL ((([t8] : List (List UInt8)) ++ ([t53] : List (List UInt8))) ++ ([t61] : List (List UInt8))) [32]).length ≤ 140737488355328) (nm (joinL ((([t8] : List (List UInt8)) ++ ([t53] : List (List UInt8))) ++ ([t61] : List (List UInt8))) [32]) fun t73 => some t73))))))) else (if (t11 == [99]) = true then (req (-9223372036854775808 ≤ a0.client) (req (a0.client ≤ 9223372036854775807) (nm (Lib.itoa a0.client) fun t81 => req (([t8] : List (List UInt8)).length + ([t81] : List (List UInt8)).length ≤ 1099511627776) (req ((([t8] : List (List UInt8)) ++ ([t81] : List (List UInt8))).length ≤ 140737488355328) (req ((joinL (([t8] : List (List UInt8)) ++ ([t81] : List (List UInt8))) [32]).length ≤ 140737488355328) (nm (joinL (([t8] : List (List UInt8)) ++ ([t81] : List (List UInt8))) [32]) fun t93 => some t93)))))) else (if (t11 == [110,100]) = true then (req (-9223372036854775808 ≤ a0.n) (req (a0.n ≤ 9223372036854775807) (nm (Lib.itoa a0.n) fun t101 => req (([t8] : List (List UInt8)).length + ([t101] : List (List UInt8)).length ≤ 1099511627776) ((wire_Hex.f (pad32 a0.draw)).bind fun t110 => req ((([t8] : List (List UInt8)) ++ ([t101] : List (List UInt8))).length + ([t110] : List (List UInt8)).length ≤ 1099511627776) (req (((([t8] : List (List UInt8)) ++ ([t101] : List (List UInt8))) ++ ([t110] : List (List UInt8))).length ≤ 140737488355328) (req ((joinL ((([t8] : List (List UInt8)) ++ ([t101] : List (List UInt8))) ++ ([t110] : List (List UInt8))) [32]).length ≤ 140737488355328) (nm (joinL ((([t8] : List (List UInt8)) ++ ([t101] : List (List UInt8))) ++ ([t110] : List (List UInt8))) [32]) fun t122 => some t122))))))) else (if (t11 == [99,110]) = true then (req (-9223372036854775808 ≤ a0.client) (req (a0.client ≤ 9223372036854775807) (nm (Lib.itoa a0.client) fun t130 => req (([t8] : List (List UInt8)).length + ([t130] : List (List UInt8)).length ≤ 1099511627776) (req (-9223372036854775808 ≤ a0.n) (req (a0.n ≤ 9223372036854775807) (nm (Lib.itoa a0.n) fun t142 => req ((([t8] : List (List UInt8)) ++ ([t130] : List (List UInt8))).length + ([t142] : List (List UInt8)).length ≤ 1099511627776) (req (((([t8] : List (List UInt8)) ++ ([t130] : List (List UInt8))) ++ ([t142] : List (List UInt8))).length ≤ 140737488355328) (req ((joinL ((([t8] : List (List UInt8)) ++ ([t130] : List (List UInt8))) ++ ([t142] : List (List UInt8))) [32]).length ≤ 140737488355328) (nm (joinL ((([t8] : List (List UInt8)) ++ ([t130] : List (List UInt8))) ++ ([t142] : List (List UInt8))) [32]) fun t154 => some t154))))))))) else (if (t11 == [121,100]) = true then ((script_digits.f a0.bytes).bind fun t158 => req (([t8] : List (List UInt8)).length + ([t158] : List (List UInt8)).length ≤ 1099511627776) ((wire_Hex.f (pad32 a0.draw)).bind fun t167 => req ((([t8] : List (List UInt8)) ++ ([t158] : List (List UInt8))).length + ([t167] : List (List UInt8)).length ≤ 1099511627776) (req (((([t8] : List (List UInt8)) ++ ([t158] : List (List UInt8))) ++ ([t167] : List (List UInt8))).length ≤ 140737488355328) (req ((joinL ((([t8] : List (List UInt8)) ++ ([t158] : List (List UInt8))) ++ ([t167] : List (List UInt8))) [32]).length ≤ 140737488355328) (nm (joinL ((([t8] : List (List UInt8)) ++ ([t158] : List (List UInt8))) ++ ([t167] : List (List UInt8))) [32]) fun t179 => some t179))))) else (if (t11 == [110,97,98,100]) = true then (req (-9223372036854775808 ≤ a0.n) (req (a0.n ≤ 9223372036854775807) (nm (Lib.itoa a0.n) fun t187 => req (([t8] : List (List UInt8)).length + ([t187] : List (List UInt8)).length ≤ 1099511627776) (req (-9223372036854775808 ≤ a0.at_) (req (a0.at_ ≤ 9223372036854775807) (nm (Lib.itoa a0.at_) fun t199 => req ((([t8] : List (List UInt8)) ++ ([t187] : List (List UInt8))).length + ([t199] : List (List UInt8)).length ≤ 1099511627776) (req (-9223372036854775808 ≤ (IntKind.i64.wrap a0.byt)) (req ((IntKind.i64.wrap a0.byt) ≤ 9223372036854775807) (nm (Lib.itoa (IntKind.i64.wrap a0.byt)) fun t211 => req (((([t8] : List (List UInt8)) ++ ([t187] : List (List UInt8))) ++ ([t199] : List (List UInt8))).length + ([t211] : List (List UInt8)).length ≤ 1099511627776) ((wire_Hex.f (pad32 a0.draw)).bind fun t220 => req ((((([t8] : List (List UInt8)) ++ ([t187] : List (List UInt8))) ++ ([t199] : List (List UInt8))) ++ ([t211] : List (List UInt8))).length + ([t220] : List (List UInt8)).length ≤ 1099511627776) (req (((((([t8] : List (List UInt8)) ++ ([t187] : List (List UInt8))) ++ ([t199] : List (List UInt8))) ++ ([t211] : List (List UInt8))) ++ ([t220] : List (List UInt8))).length ≤ 140737488355328) (req ((joinL ((((([t8] : List (List UInt8)) ++ ([t187] : List (List UInt8))) ++ ([t199] : List (List UInt8))) ++ ([t211] : List (List UInt8))) ++ ([t220] : List (List UInt8))) [32]).length ≤ 140737488355328) (nm (joinL ((((([t8] : List (List UInt8)) ++ ([t187] : List (List UInt8))) ++ ([t199] : List (List UInt8))) ++ ([t211] : List (List UInt8))) ++ ([t220] : List (List UInt8))) [32]) fun t232 => some t232))))))))))))) else (if (t11 == [116]) = true then (req (0 ≤ a0.tick) (req (a0.tick < 18446744073709551616) (nm (Lib.itoa a0.tick) fun t240 => req (([t8] : List (List UInt8)).length + ([t240] : List (List UInt8)).length ≤ 1099511627776) (req ((([t8] : List (List UInt8)) ++ ([t240] : List (List UInt8))).length ≤ 140737488355328) (req ((joinL (([t8] : List (List UInt8)) ++ ([t240] : List (List UInt8))) [32]).length ≤ 140737488355328) (nm (joinL (([t8] : List (List UInt8)) ++ ([t240] : List (List UInt8))) [32]) fun t252 => some t252)))))) else (if (t11 == [110]) = true then (req (-9223372036854775808 ≤ a0.n) (req (a0.n ≤ 9223372036854775807) (nm (Lib.itoa a0.n) fun t260 => req (([t8] : List (List UInt8)).length + ([t260] : List (List UInt8)).length ≤ 1099511627776) (req ((([t8] : List (List UInt8)) ++ ([t260] : List (List UInt8))).length ≤ 140737488355328) (req ((joinL (([t8] : List (List UInt8)) ++ ([t260] : List (List UInt8))) [32]).length ≤ 140737488355328) (nm (joinL (([t8] : List (List UInt8)) ++ ([t260] : List (List UInt8))) [32]) fun t272 => some t272)))))) else (if (t11 == [112]) = true then ((script_actText.L0 a0 ((a0.picks.length : Int).toNat + 1) ([t8] : List (List UInt8)) 0).bind fun z_o16_347 => req (z_o16_347.length ≤ 140737488355328) (req ((joinL z_o16_347 [32]).length ≤ 140737488355328) (nm (joinL z_o16_347 [32]) fun t374 => some t374))) else (if (t11 == zU) = true then (req (([t8] : List (List UInt8)).length ≤ 140737488355328) (req ((joinL ([t8] : List (List UInt8)) [32]).length ≤ 140737488355328) (nm (joinL ([t8] : List (List UInt8)) [32]) fun t382 => some t382))) else (if (t11 == [110,97,98]) = true then (req (-9223372036854775808 ≤ a0.n) (req (a0.n ≤ 9223372036854775807) (nm (Lib.itoa a0.n) fun t390 => req (([t8] : List (List UInt8)).length + ([t390] : List (List UInt8)).length ≤ 1099511627776) (req (-9223372036854775808 ≤ a0.at_) (req (a0.at_ ≤ 9223372036854775807) (nm (Lib.itoa a0.at_) fun t402 => req ((([t8] : List (List UInt8)) ++ ([t390] : List (List UInt8))).length + ([t402] : List (List UInt8)).length ≤ 1099511627776) (req (-9223372036854775808 ≤ (IntKind.i64.wrap a0.byt)) (req ((IntKind.i64.wrap a0.byt) ≤ 9223372036854775807) (nm (Lib.itoa (IntKind.i64.wrap a0.byt)) fun t414 => req (((([t8] : List (List UInt8)) ++ ([t390] : List (List UInt8))) ++ ([t402] : List (List UInt8))).length + ([t414] : List (List UInt8)).length ≤ 1099511627776) (req ((((([t8] : List (List UInt8)) ++ ([t390] : List (List UInt8))) ++ ([t402] : List (List UInt8))) ++ ([t414] : List (List UInt8))).length ≤ 140737488355328) (req ((joinL (((([t8] : List (List UInt8)) ++ ([t390] : List (List UInt8))) ++ ([t402] : List (List UInt8))) ++ ([t414] : List (List UInt8))) [32]).length ≤ 140737488355328) (nm (joinL (((([t8] : List (List UInt8)) ++ ([t390] : List (List UInt8))) ++ ([t402] : List (List UInt8))) ++ ([t414] : List (List UInt8))) [32]) fun t426 => some t426)))))))))))) else (none))))))))))))
set_option maxHeartbeats 1000000 in
set_option maxRecDepth 20000 in
theorem script_actText.ok {a0 : Act} {a0_108 : Value} {a0_109 : Value} {a0_110 : Value} {r : List UInt8} (h : script_actText.f a0 = some r) {M : Mem} (w : World) (hM : Ext M (heapOf w)) (hG : Glob M) (hr_a0_108 : IntRow M .u8 a0_108 a0.cmd.data) (hr_a0_109 : IntRow M .u8 a0_109 a0.bytes) (hr_a0_110 : IntRow M .i64 a0_110 a0.picks) : Calls Tryz.prog 37 #[.agg (Act.ce a0 a0_108 a0_109 a0_110)] w (Post (fun u => u = str r) w):=by
 unfold script_actText.f at h
 have hE:=Env.start hM
 refine calls_of_TT (N:=111) (S:=[(0,.agg (Act.ce a0 a0_108 a0_109 a0_110))]) (c:=B37) Tryz.func37 rfl rfl rfl (by simp) ?_
 show TT _ _ _ _ _ _ [.code (sub [] B37)] _ _
 refine TT.sq rfl ?_
 refine TT.rg [0,1] [kA,kp] rfl rfl ?_
 refine DL.new (ob:=.cells ((Act.ce a0 a0_108 a0_109 a0_110)) 36) (mk:=fun b => ptr b 0) (i:=0) rfl (Wn.none rfl) rfl rfl rfl (f_box (v:=.agg (Act.ce a0 a0_108 a0_109 a0_110)) rfl rfl) ?_
 intro b1 hb1
 refine DL.pu 2 (str zU) rfl (p_assign rfl rfl) ?_
 refine DL.nil ?_
 refine TT.freezeAt (j:=0) hE rfl ?_
 intro M2 I2 hE2 hx2 hxI2 hb2
 have hm_2 : M2 b1 = some (.cells ((Act.ce a0 a0_108 a0_109 a0_110)) 36 (0,0)):=hb2 _ rfl
 show TT _ _ _ _ _ _ _ _ []
 refine TT.sq rfl ?_
 refine TT.rgD [1,2,0,3,4,5] [0,0,2,7,0,31] [kF,kp,kq,kq,kA,(.store,some 104)] rfl mixed (by kernel_rfl) ?_
 intro w3 hl3 hj3 hz3
 refine DL.pu 10 (ptr b1 0) rfl (p_fieldAddr ty_f36_0 rfl rfl) ?_
 refine DL.qu 11 (.int .i64 a0.kind) rfl (FImm.quiet (i_loadBoxO (I:=M2) hm_2 rfl ty_a23 rfl rfl) (fun w hc => hE2.imm hc)) ?_
 obtain ⟨_,h5,h6⟩:=bind_some h
 refine DL.callFf (G:=Nat) (u:=fun g => .map (some g)) (Q:=fun g M_ => (M_ g = some SFormsO)) (A:=[]) (J:=[]) (fun J7 => (J7)) hl3.2.2.2 hE2.nil (List.append_nil _).symm (fun _ => rfl) (by simp) (i:=0) rfl (Wn.none rfl) rfl rfl rfl rfl rfl rfl (args_val (vs:=[]) rfl) (fun w => enter34 _ w) (fun w hc hI => script_forms.ok h5 (M:=M2) w hI ) ?_
 rintro t4_m M7 J7 hE7 hx7 hm_t4
 obtain ⟨t8,e9,h10⟩:=nm_some h6
 obtain ⟨t11,e12,h13⟩:=nm_some h10
 refine DL.qu 12 (.agg #[str t8,str t11]) rfl (by rw [e9,e12]; exact FImm.quiet (i_lookupM (I:=M7) (a:=a0.kind) ty_u79 ty_u23 ty_z86 hm_t4 (sf_val a0.kind) rfl rfl rfl) (fun w hc => hE7.immJ (A:=[]) hc rfl)) ?_
 refine DL.new (ob:=.cells (#[str zU,str zU]) 86) (mk:=fun b => ptr b 0) (i:=4) rfl (Wn.none rfl) rfl rfl rfl (f_alloc ty_z86 rfl) ?_
 intro b14 hb14
 refine DL.put (H':=((some b14,.cells (#[str t8,str t11]) 86 (0,0)) :: J7)) (i:=5) rfl (Wn.none rfl) rfl rfl (f_storeA (j:=0) ty_s86 rfl rfl rfl (by simp [OneCell,str]) rfl rfl rfl) (keep_new (j:=0) hz3 hb14 rfl) ?_
 refine DL.nil' hl3 ?_
 refine TT.settle (A:=[(some b14,.cells (#[str t8,str t11]) 86 (0,0))]) (J:=J7) hE7 ?_
 intro I15 hE15 hxI15
 refine TT.sq rfl ?_
 refine TT.rg [0,1,2,3] [kp,kq,kA,kp] rfl rfl ?_
 refine DL.pu 13 (ptr b14 0) rfl (p_fieldAddr ty_f86_0 rfl rfl) ?_
 refine DL.qu 14 (str t8) rfl (f_load (j:=0) ty_a9 rfl rfl rfl rfl) ?_
 refine DL.newS (M:=M7) (s:=Sh.str) (zs:=([t8] : List (List UInt8))) (cells:=[str t8]) (n:=1) rfl (by decide) rfl (fun i x hx => by match i,hx with | 0,hx => cases hx; exact rfl | k + 1,hx => simp at hx) (i:=2) rfl (Wn.none rfl) rfl rfl rfl (f_buildS (n:=1) (vs:=[(0,str t8)]) elem46 rfl rfl (by kernel_rfl) rfl (args_val2 rfl)) ?_
 intro s17_v s17_c ho_s17
 refine DL.pu 4 (s17_v) rfl (p_assign rfl rfl) ?_
 refine DL.nil ?_
 refine TT.sq rfl ?_
 refine TT.sq rfl ?_
 refine TT.rg [0,1,2] [kp,kq,kk] rfl rfl ?_
 refine DL.pu 16 (ptr b14 1) rfl (p_fieldAddr ty_f86_1 rfl rfl) ?_
 refine DL.qu 17 (str t11) rfl (f_load (j:=1) ty_a9 rfl rfl rfl rfl) ?_
 by_cases hs18_0 : t11 = [99,102]
 ·
  subst hs18_0
  replace h13:=(if_pos (by decide)).symm.trans h13
  refine DL.keep (X:=Nat) (u:=fun b => ptr b 0) (H':=fun b => (some b,.stringIter ⟨#[99,102]⟩ 0) :: [(Value.ownBlock s17_v,.cells s17_c 9 (0,0)),(some b14,.cells (#[str t8,str [99,102]]) 86 (0,0))]) (fun _ p hp => List.mem_cons_of_mem _ hp) (i:=2) rfl (Wn.none rfl) rfl rfl rfl (f_rangeText (s:=⟨#[99,102]⟩) (by kernel_rfl : Tryz.prog.underlying 9 = some .string) rfl rfl) ?_
  intro b19
  refine DL.nil ?_
  refine TT.bk rfl ?_
  refine TT.lp rfl ?_
  refine TT.sq rfl ?_
  refine TT.rg [0,1] [kx,kp] rfl rfl ?_
  refine DL.chr (j:=0) (c:=99) (wd:=1) rfl rfl rfl rfl rfl rfl (by decide) (by kernel_rfl) rfl rfl ?_
  refine DL.pu 20 (.bool true) rfl (p_extract rfl rfl rfl) ?_
  refine DL.nil ?_
  refine TT.sq rfl ?_
  refine TT.ct rfl rfl rfl ?_
  refine TT.skip ?_
  refine TT.bk rfl ?_
  refine TT.sq rfl ?_
  refine TT.rg [0,1] [kp,kp] rfl rfl ?_
  refine DL.pu 21 (.int .i32 99) rfl (p_extract rfl rfl rfl) ?_
  refine DL.pu 6 (.int .i32 99) rfl (p_assign rfl rfl) ?_
  refine DL.nil ?_
  refine TT.sq rfl ?_
  refine TT.rg [0] [kp] rfl rfl ?_
  refine DL.mv 22 (.int .i32 99) rfl rfl rfl ?_
  refine DL.nil ?_
  refine TT.bk rfl ?_
  refine TT.sq rfl ?_
  refine TT.rg [0,1] [kp,kp] rfl rfl ?_
  refine DL.pu 37 (.bool true) rfl (show FPure _ _ _ (.bool ((99 : Int) == (99 : Int))) from p_eql rfl rfl rfl) ?_
  refine DL.pu 36 (.bool true) rfl (p_assign rfl rfl) ?_
  refine DL.nil ?_
  refine TT.ct rfl rfl rfl ?_
  refine TT.rg [0,1,2,3,4,5,6] [kp,kp,kq,kq,kA,kx,kp] rfl rfl ?_
  refine DL.mv 38 (s17_v) rfl rfl rfl ?_
  refine DL.pu 39 (ptr b1 1) rfl (p_fieldAddr ty_f36_1 rfl rfl) ?_
  refine DL.qu 40 (.int .i64 a0.client) rfl (FImm.quiet (i_loadBoxO (I:=M7) (hx7 _ _ hm_2) rfl ty_a3 rfl rfl) (fun w hc => hE15.imm hc)) ?_
  obtain ⟨g20,h21⟩:=req_some h13
  obtain ⟨g22,h23⟩:=req_some h21
  obtain ⟨t24,e25,h26⟩:=nm_some h23
  refine DL.qu 41 (str t24) rfl (by rw [e25]; exact f_callR rfl rfl (args_val (vs:=[.int .i64 a0.client]) rfl) (fun w => enter63 _ w) (fun w hc => itoa_ok (Glob.mono hG (hx2.trans hx7)) _ g20 g22 w (hE15.ext hc))) ?_
  refine DL.newS (M:=M7) (s:=Sh.str) (zs:=([t24] : List (List UInt8))) (cells:=[str t24]) (n:=1) rfl (by decide) rfl (fun i x hx => by match i,hx with | 0,hx => cases hx; exact rfl | k + 1,hx => simp at hx) (i:=4) rfl (Wn.none rfl) rfl rfl rfl (f_buildS (n:=1) (vs:=[(0,str t24)]) elem46 rfl rfl (by kernel_rfl) rfl (args_val2 rfl)) ?_
  intro s28_v s28_c ho_s28
  obtain ⟨g29,h30⟩:=req_some h26
  refine DL.appendS (M:=M7) (s:=Sh.str) (fun s31_v s31_c => [(Value.ownBlock s28_v,.cells s28_c 9 (0,0)),(some b19,.stringIter ⟨#[99,102]⟩ 1),(Value.ownBlock s31_v,.cells s31_c 9 (0,0)),(some b14,.cells (#[str t8,str [99,102]]) 86 (0,0))]) elem46 (j:=2) rfl ho_s17 g29 (by decide) (OwnS.src (i:=0) ho_s28 rfl) (i:=5) rfl (Wn.none rfl) rfl rfl rfl rfl rfl rfl (fun _ _ => rfl) ?_
  intro s31_v s31_c ho_s31
  refine DL.pu 4 (s31_v) rfl (p_assign rfl rfl) ?_
  refine DL.nil ?_
  refine TT.inBlock ?_
  refine TT.inBlock ?_
  refine TT.inLoop ?_
  refine TT.sq rfl ?_
  refine TT.rg [0,1] [kx,kp] rfl rfl ?_
  refine DL.chr (j:=1) (c:=102) (wd:=1) rfl rfl rfl rfl rfl rfl (by decide) (by kernel_rfl) rfl rfl ?_
  refine DL.pu 20 (.bool true) rfl (p_extract rfl rfl rfl) ?_
  refine DL.nil ?_
  refine TT.sq rfl ?_
  refine TT.ct rfl rfl rfl ?_
  refine TT.skip ?_
  refine TT.bk rfl ?_
  refine TT.sq rfl ?_
  refine TT.rg [0,1] [kp,kp] rfl rfl ?_
  refine DL.pu 21 (.int .i32 102) rfl (p_extract rfl rfl rfl) ?_
  refine DL.pu 6 (.int .i32 102) rfl (p_assign rfl rfl) ?_
  refine DL.nil ?_
  refine TT.sq rfl ?_
  refine TT.rg [0] [kp] rfl rfl ?_
  refine DL.mv 22 (.int .i32 102) rfl rfl rfl ?_
  refine DL.nil ?_
  refine TT.bk rfl ?_
  refine TT.sq rfl ?_
  refine TT.rg [0,1] [kp,kp] rfl rfl ?_
  refine DL.pu 37 (.bool false) rfl (show FPure _ _ _ (.bool ((102 : Int) == (99 : Int))) from p_eql rfl rfl rfl) ?_
  refine DL.pu 36 (.bool false) rfl (p_assign rfl rfl) ?_
  refine DL.nil ?_
  refine TT.cf rfl rfl rfl ?_
  refine TT.sq rfl ?_
  refine TT.rg [0,1] [kp,kp] rfl rfl ?_
  refine DL.pu 45 (.bool false) rfl (show FPure _ _ _ (.bool ((102 : Int) == (110 : Int))) from p_eql rfl rfl rfl) ?_
  refine DL.pu 44 (.bool false) rfl (p_assign rfl rfl) ?_
  refine DL.nil ?_
  refine TT.cf rfl rfl rfl ?_
  refine TT.sq rfl ?_
  refine TT.rg [0,1] [kp,kp] rfl rfl ?_
  refine DL.pu 53 (.bool false) rfl (show FPure _ _ _ (.bool ((102 : Int) == (97 : Int))) from p_eql rfl rfl rfl) ?_
  refine DL.pu 52 (.bool false) rfl (p_assign rfl rfl) ?_
  refine DL.nil ?_
  refine TT.cf rfl rfl rfl ?_
  refine TT.sq rfl ?_
  refine TT.rg [0,1] [kp,kp] rfl rfl ?_
  refine DL.pu 61 (.bool false) rfl (show FPure _ _ _ (.bool ((102 : Int) == (98 : Int))) from p_eql rfl rfl rfl) ?_
  refine DL.pu 60 (.bool false) rfl (p_assign rfl rfl) ?_
  refine DL.nil ?_
  refine TT.cf rfl rfl rfl ?_
  refine TT.sq rfl ?_
  refine TT.rg [0,1] [kp,kp] rfl rfl ?_
  refine DL.pu 70 (.bool false) rfl (show FPure _ _ _ (.bool ((102 : Int) == (116 : Int))) from p_eql rfl rfl rfl) ?_
  refine DL.pu 69 (.bool false) rfl (p_assign rfl rfl) ?_
  refine DL.nil ?_
  refine TT.cf rfl rfl rfl ?_
  refine TT.sq rfl ?_
  refine TT.rg [0,1] [kp,kp] rfl rfl ?_
  refine DL.pu 78 (.bool true) rfl (show FPure _ _ _ (.bool ((102 : Int) == (102 : Int))) from p_eql rfl rfl rfl) ?_
  refine DL.pu 77 (.bool true) rfl (p_assign rfl rfl) ?_
  refine DL.nil ?_
  refine TT.ct rfl rfl rfl ?_
  refine TT.rg [0,1,2,3,4,5,6] [kp,kp,kp,kq,kA,kx,kp] rfl rfl ?_
  refine DL.mv 79 (s31_v) rfl rfl rfl ?_
  refine DL.pu 80 (ptr b1 6) rfl (p_fieldAddr ty_f36_6 rfl rfl) ?_
  obtain ⟨v32,v32_e⟩ : ∃ u,u = Value.slice (some ⟨b1,6,none⟩) 32 32:=⟨_,rfl⟩
  have hr_v32 : IntRow M7 .u8 v32 (pad32 a0.first):=by rw [v32_e]; exact row_of_box (hx7 _ _ hm_2) rfl rfl
  refine DL.pu 81 (v32) rfl (by rw [v32_e]; exact p_sliceBox (fun w => by kernel_rfl) rfl rfl) ?_
  obtain ⟨t33,h34,h35⟩:=bind_some h30
  refine DL.qu 82 (str t33) rfl (f_callR rfl rfl (args_val (vs:=[v32]) rfl) (fun w => enter86 _ w) (fun w hc => wire_Hex.val h34 (M:=M7) w (hE15.ext hc) hr_v32)) ?_
  refine DL.newS (M:=M7) (s:=Sh.str) (zs:=([t33] : List (List UInt8))) (cells:=[str t33]) (n:=1) rfl (by decide) rfl (fun i x hx => by match i,hx with | 0,hx => cases hx; exact rfl | k + 1,hx => simp at hx) (i:=4) rfl (Wn.none rfl) rfl rfl rfl (f_buildS (n:=1) (vs:=[(0,str t33)]) elem46 rfl rfl (by kernel_rfl) rfl (args_val2 rfl)) ?_
  intro s37_v s37_c ho_s37
  obtain ⟨g38,h39⟩:=req_some h35
  refine DL.appendS (M:=M7) (s:=Sh.str) (fun s40_v s40_c => [(Value.ownBlock s37_v,.cells s37_c 9 (0,0)),(Value.ownBlock s28_v,.cells s28_c 9 (0,0)),(some b19,.stringIter ⟨#[99,102]⟩ 2),(Value.ownBlock s40_v,.cells s40_c 9 (0,0)),(some b14,.cells (#[str t8,str [99,102]]) 86 (0,0))]) elem46 (j:=3) rfl ho_s31 g38 (by decide) (OwnS.src (i:=0) ho_s37 rfl) (i:=5) rfl (Wn.none rfl) rfl rfl rfl rfl rfl rfl (fun _ _ => rfl) ?_
  intro s40_v s40_c ho_s40
  refine DL.pu 4 (s40_v) rfl (p_assign rfl rfl) ?_
  refine DL.nil ?_
  refine TT.inBlock ?_
  refine TT.inBlock ?_
  refine TT.inLoop ?_
  refine TT.sq rfl ?_
  refine TT.rg [0,1] [kx,kp] rfl rfl ?_
  refine DL.chrE (j:=2) rfl rfl rfl rfl rfl rfl (by decide) rfl rfl ?_
  refine DL.pu 20 (.bool false) rfl (p_extract rfl rfl rfl) ?_
  refine DL.nil ?_
  refine TT.sq rfl ?_
  refine TT.cf rfl rfl rfl ?_
  refine TT.exit rfl ?_
  refine TT.sq rfl ?_
  refine TT.rg [0,1,2] [kp,kq,kp] rfl rfl ?_
  refine DL.mv 109 (s40_v) rfl rfl rfl ?_
  obtain ⟨g41,h42⟩:=req_some h39
  obtain ⟨g43,h44⟩:=req_some h42
  obtain ⟨t45,e46,h47⟩:=nm_some h44
  refine DL.qu 110 (str t45) rfl (by rw [e46]; exact f_callR rfl rfl (args_val (vs:=[s40_v,str [32]]) rfl) (fun w => enter69 _ w) (fun w hc => join_ok (i:=3) _ ho_s40 hc rfl g41 g43)) ?_
  refine DL.pu 2 (str t45) rfl (p_assign rfl rfl) ?_
  refine DL.nil ?_
  obtain rfl:=Option.some.inj h47
  exact retnE (rs:=[.tmp 2]) (vs:=[str t45]) hE15.base Tryz.func37 rfl rfl rfl (res_cons (ResV.tmp rfl) res_nil) rfl
 replace h13:=(if_neg (by simpa using hs18_0)).symm.trans h13
 by_cases hs18_1 : t11 = [99,109]
 ·
  subst hs18_1
  replace h13:=(if_pos (by decide)).symm.trans h13
  refine DL.keep (X:=Nat) (u:=fun b => ptr b 0) (H':=fun b => (some b,.stringIter ⟨#[99,109]⟩ 0) :: [(Value.ownBlock s17_v,.cells s17_c 9 (0,0)),(some b14,.cells (#[str t8,str [99,109]]) 86 (0,0))]) (fun _ p hp => List.mem_cons_of_mem _ hp) (i:=2) rfl (Wn.none rfl) rfl rfl rfl (f_rangeText (s:=⟨#[99,109]⟩) (by kernel_rfl : Tryz.prog.underlying 9 = some .string) rfl rfl) ?_
  intro b48
  refine DL.nil ?_
  refine TT.bk rfl ?_
  refine TT.lp rfl ?_
  refine TT.sq rfl ?_
  refine TT.rg [0,1] [kx,kp] rfl rfl ?_
  refine DL.chr (j:=0) (c:=99) (wd:=1) rfl rfl rfl rfl rfl rfl (by decide) (by kernel_rfl) rfl rfl ?_
  refine DL.pu 20 (.bool true) rfl (p_extract rfl rfl rfl) ?_
  refine DL.nil ?_
  refine TT.sq rfl ?_
  refine TT.ct rfl rfl rfl ?_
  refine TT.skip ?_
  refine TT.bk rfl ?_
  refine TT.sq rfl ?_
  refine TT.rg [0,1] [kp,kp] rfl rfl ?_
  refine DL.pu 21 (.int .i32 99) rfl (p_extract rfl rfl rfl) ?_
  refine DL.pu 6 (.int .i32 99) rfl (p_assign rfl rfl) ?_
  refine DL.nil ?_
  refine TT.sq rfl ?_
  refine TT.rg [0] [kp] rfl rfl ?_
  refine DL.mv 22 (.int .i32 99) rfl rfl rfl ?_
  refine DL.nil ?_
  refine TT.bk rfl ?_
  refine TT.sq rfl ?_
  refine TT.rg [0,1] [kp,kp] rfl rfl ?_
  refine DL.pu 37 (.bool true) rfl (show FPure _ _ _ (.bool ((99 : Int) == (99 : Int))) from p_eql rfl rfl rfl) ?_
  refine DL.pu 36 (.bool true) rfl (p_assign rfl rfl) ?_
  refine DL.nil ?_
  refine TT.ct rfl rfl rfl ?_
  refine TT.rg [0,1,2,3,4,5,6] [kp,kp,kq,kq,kA,kx,kp] rfl rfl ?_
  refine DL.mv 38 (s17_v) rfl rfl rfl ?_
  refine DL.pu 39 (ptr b1 1) rfl (p_fieldAddr ty_f36_1 rfl rfl) ?_
  refine DL.qu 40 (.int .i64 a0.client) rfl (FImm.quiet (i_loadBoxO (I:=M7) (hx7 _ _ hm_2) rfl ty_a3 rfl rfl) (fun w hc => hE15.imm hc)) ?_
  obtain ⟨g49,h50⟩:=req_some h13
  obtain ⟨g51,h52⟩:=req_some h50
  obtain ⟨t53,e54,h55⟩:=nm_some h52
  refine DL.qu 41 (str t53) rfl (by rw [e54]; exact f_callR rfl rfl (args_val (vs:=[.int .i64 a0.client]) rfl) (fun w => enter63 _ w) (fun w hc => itoa_ok (Glob.mono hG (hx2.trans hx7)) _ g49 g51 w (hE15.ext hc))) ?_
  refine DL.newS (M:=M7) (s:=Sh.str) (zs:=([t53] : List (List UInt8))) (cells:=[str t53]) (n:=1) rfl (by decide) rfl (fun i x hx => by match i,hx with | 0,hx => cases hx; exact rfl | k + 1,hx => simp at hx) (i:=4) rfl (Wn.none rfl) rfl rfl rfl (f_buildS (n:=1) (vs:=[(0,str t53)]) elem46 rfl rfl (by kernel_rfl) rfl (args_val2 rfl)) ?_
  intro s57_v s57_c ho_s57
  obtain ⟨g58,h59⟩:=req_some h55
  refine DL.appendS (M:=M7) (s:=Sh.str) (fun s60_v s60_c => [(Value.ownBlock s57_v,.cells s57_c 9 (0,0)),(some b48,.stringIter ⟨#[99,109]⟩ 1),(Value.ownBlock s60_v,.cells s60_c 9 (0,0)),(some b14,.cells (#[str t8,str [99,109]]) 86 (0,0))]) elem46 (j:=2) rfl ho_s17 g58 (by decide) (OwnS.src (i:=0) ho_s57 rfl) (i:=5) rfl (Wn.none rfl) rfl rfl rfl rfl rfl rfl (fun _ _ => rfl) ?_
  intro s60_v s60_c ho_s60
  refine DL.pu 4 (s60_v) rfl (p_assign rfl rfl) ?_
  refine DL.nil ?_
  refine TT.inBlock ?_
  refine TT.inBlock ?_
  refine TT.inLoop ?_
  refine TT.sq rfl ?_
  refine TT.rg [0,1] [kx,kp] rfl rfl ?_
  refine DL.chr (j:=1) (c:=109) (wd:=1) rfl rfl rfl rfl rfl rfl (by decide) (by kernel_rfl) rfl rfl ?_
  refine DL.pu 20 (.bool true) rfl (p_extract rfl rfl rfl) ?_
  refine DL.nil ?_
  refine TT.sq rfl ?_
  refine TT.ct rfl rfl rfl ?_
  refine TT.skip ?_
  refine TT.bk rfl ?_
  refine TT.sq rfl ?_
  refine TT.rg [0,1] [kp,kp] rfl rfl ?_
  refine DL.pu 21 (.int .i32 109) rfl (p_extract rfl rfl rfl) ?_
  refine DL.pu 6 (.int .i32 109) rfl (p_assign rfl rfl) ?_
  refine DL.nil ?_
  refine TT.sq rfl ?_
  refine TT.rg [0] [kp] rfl rfl ?_
  refine DL.mv 22 (.int .i32 109) rfl rfl rfl ?_
  refine DL.nil ?_
  refine TT.bk rfl ?_
  refine TT.sq rfl ?_
  refine TT.rg [0,1] [kp,kp] rfl rfl ?_
  refine DL.pu 37 (.bool false) rfl (show FPure _ _ _ (.bool ((109 : Int) == (99 : Int))) from p_eql rfl rfl rfl) ?_
  refine DL.pu 36 (.bool false) rfl (p_assign rfl rfl) ?_
  refine DL.nil ?_
  refine TT.cf rfl rfl rfl ?_
  refine TT.sq rfl ?_
  refine TT.rg [0,1] [kp,kp] rfl rfl ?_
  refine DL.pu 45 (.bool false) rfl (show FPure _ _ _ (.bool ((109 : Int) == (110 : Int))) from p_eql rfl rfl rfl) ?_
  refine DL.pu 44 (.bool false) rfl (p_assign rfl rfl) ?_
  refine DL.nil ?_
  refine TT.cf rfl rfl rfl ?_
  refine TT.sq rfl ?_
  refine TT.rg [0,1] [kp,kp] rfl rfl ?_
  refine DL.pu 53 (.bool false) rfl (show FPure _ _ _ (.bool ((109 : Int) == (97 : Int))) from p_eql rfl rfl rfl) ?_
  refine DL.pu 52 (.bool false) rfl (p_assign rfl rfl) ?_
  refine DL.nil ?_
  refine TT.cf rfl rfl rfl ?_
  refine TT.sq rfl ?_
  refine TT.rg [0,1] [kp,kp] rfl rfl ?_
  refine DL.pu 61 (.bool false) rfl (show FPure _ _ _ (.bool ((109 : Int) == (98 : Int))) from p_eql rfl rfl rfl) ?_
  refine DL.pu 60 (.bool false) rfl (p_assign rfl rfl) ?_
  refine DL.nil ?_
  refine TT.cf rfl rfl rfl ?_
  refine TT.sq rfl ?_
  refine TT.rg [0,1] [kp,kp] rfl rfl ?_
  refine DL.pu 70 (.bool false) rfl (show FPure _ _ _ (.bool ((109 : Int) == (116 : Int))) from p_eql rfl rfl rfl) ?_
  refine DL.pu 69 (.bool false) rfl (p_assign rfl rfl) ?_
  refine DL.nil ?_
  refine TT.cf rfl rfl rfl ?_
  refine TT.sq rfl ?_
  refine TT.rg [0,1] [kp,kp] rfl rfl ?_
  refine DL.pu 78 (.bool false) rfl (show FPure _ _ _ (.bool ((109 : Int) == (102 : Int))) from p_eql rfl rfl rfl) ?_
  refine DL.pu 77 (.bool false) rfl (p_assign rfl rfl) ?_
  refine DL.nil ?_
  refine TT.cf rfl rfl rfl ?_
  refine TT.sq rfl ?_
  refine TT.rg [0,1] [kp,kp] rfl rfl ?_
  refine DL.pu 86 (.bool false) rfl (show FPure _ _ _ (.bool ((109 : Int) == (100 : Int))) from p_eql rfl rfl rfl) ?_
  refine DL.pu 85 (.bool false) rfl (p_assign rfl rfl) ?_
  refine DL.nil ?_
  refine TT.cf rfl rfl rfl ?_
  refine TT.sq rfl ?_
  refine TT.rg [0,1] [kp,kp] rfl rfl ?_
  refine DL.pu 94 (.bool true) rfl (show FPure _ _ _ (.bool ((109 : Int) == (109 : Int))) from p_eql rfl rfl rfl) ?_
  refine DL.pu 93 (.bool true) rfl (p_assign rfl rfl) ?_
  refine DL.nil ?_
  refine TT.ct rfl rfl rfl ?_
  refine TT.rg [0,1,2,3,4,5,6] [kp,kp,kq,kq,kA,kx,kp] rfl rfl ?_
  refine DL.mv 95 (s60_v) rfl rfl rfl ?_
  refine DL.pu 96 (ptr b1 70) rfl (p_fieldAddr ty_f36_8 rfl rfl) ?_
  refine DL.qu 97 (.agg (Cmd.ce a0.cmd a0_108)) rfl (FImm.quiet (i_loadBoxSub (I:=M7) (hx7 _ _ hm_2) (vs:=(Cmd.ce a0.cmd a0_108).toList) rfl rfl ty_a33 ty_s33 rfl rfl) (fun w hc => hE15.imm hc)) ?_
  obtain ⟨t61,h62,h63⟩:=bind_some h59
  refine DL.qu 98 (str t61) rfl (f_callR rfl rfl (args_val (vs:=[.agg (Cmd.ce a0.cmd a0_108)]) rfl) (fun w => enter55 _ w) (fun w hc => script_cmdText.val h62 (M:=M7) w (hE15.ext hc) (Glob.mono hG (hx2.trans hx7)) (IntRow.mono hr_a0_108 (hx2.trans hx7)))) ?_
  refine DL.newS (M:=M7) (s:=Sh.str) (zs:=([t61] : List (List UInt8))) (cells:=[str t61]) (n:=1) rfl (by decide) rfl (fun i x hx => by match i,hx with | 0,hx => cases hx; exact rfl | k + 1,hx => simp at hx) (i:=4) rfl (Wn.none rfl) rfl rfl rfl (f_buildS (n:=1) (vs:=[(0,str t61)]) elem46 rfl rfl (by kernel_rfl) rfl (args_val2 rfl)) ?_
  intro s65_v s65_c ho_s65
  obtain ⟨g66,h67⟩:=req_some h63
  refine DL.appendS (M:=M7) (s:=Sh.str) (fun s68_v s68_c => [(Value.ownBlock s65_v,.cells s65_c 9 (0,0)),(Value.ownBlock s57_v,.cells s57_c 9 (0,0)),(some b48,.stringIter ⟨#[99,109]⟩ 2),(Value.ownBlock s68_v,.cells s68_c 9 (0,0)),(some b14,.cells (#[str t8,str [99,109]]) 86 (0,0))]) elem46 (j:=3) rfl ho_s60 g66 (by decide) (OwnS.src (i:=0) ho_s65 rfl) (i:=5) rfl (Wn.none rfl) rfl rfl rfl rfl rfl rfl (fun _ _ => rfl) ?_
  intro s68_v s68_c ho_s68
  refine DL.pu 4 (s68_v) rfl (p_assign rfl rfl) ?_
  refine DL.nil ?_
  refine TT.inBlock ?_
  refine TT.inBlock ?_
  refine TT.inLoop ?_
  refine TT.sq rfl ?_
  refine TT.rg [0,1] [kx,kp] rfl rfl ?_
  refine DL.chrE (j:=2) rfl rfl rfl rfl rfl rfl (by decide) rfl rfl ?_
  refine DL.pu 20 (.bool false) rfl (p_extract rfl rfl rfl) ?_
  refine DL.nil ?_
  refine TT.sq rfl ?_
  refine TT.cf rfl rfl rfl ?_
  refine TT.exit rfl ?_
  refine TT.sq rfl ?_
  refine TT.rg [0,1,2] [kp,kq,kp] rfl rfl ?_
  refine DL.mv 109 (s68_v) rfl rfl rfl ?_
  obtain ⟨g69,h70⟩:=req_some h67
  obtain ⟨g71,h72⟩:=req_some h70
  obtain ⟨t73,e74,h75⟩:=nm_some h72
  refine DL.qu 110 (str t73) rfl (by rw [e74]; exact f_callR rfl rfl (args_val (vs:=[s68_v,str [32]]) rfl) (fun w => enter69 _ w) (fun w hc => join_ok (i:=3) _ ho_s68 hc rfl g69 g71)) ?_
  refine DL.pu 2 (str t73) rfl (p_assign rfl rfl) ?_
  refine DL.nil ?_
  obtain rfl:=Option.some.inj h75
  exact retnE (rs:=[.tmp 2]) (vs:=[str t73]) hE15.base Tryz.func37 rfl rfl rfl (res_cons (ResV.tmp rfl) res_nil) rfl
 replace h13:=(if_neg (by simpa using hs18_1)).symm.trans h13
 by_cases hs18_2 : t11 = [99]
 ·
  subst hs18_2
  replace h13:=(if_pos (by decide)).symm.trans h13
  refine DL.keep (X:=Nat) (u:=fun b => ptr b 0) (H':=fun b => (some b,.stringIter ⟨#[99]⟩ 0) :: [(Value.ownBlock s17_v,.cells s17_c 9 (0,0)),(some b14,.cells (#[str t8,str [99]]) 86 (0,0))]) (fun _ p hp => List.mem_cons_of_mem _ hp) (i:=2) rfl (Wn.none rfl) rfl rfl rfl (f_rangeText (s:=⟨#[99]⟩) (by kernel_rfl : Tryz.prog.underlying 9 = some .string) rfl rfl) ?_
  intro b76
  refine DL.nil ?_
  refine TT.bk rfl ?_
  refine TT.lp rfl ?_
  refine TT.sq rfl ?_
  refine TT.rg [0,1] [kx,kp] rfl rfl ?_
  refine DL.chr (j:=0) (c:=99) (wd:=1) rfl rfl rfl rfl rfl rfl (by decide) (by kernel_rfl) rfl rfl ?_
  refine DL.pu 20 (.bool true) rfl (p_extract rfl rfl rfl) ?_
  refine DL.nil ?_
  refine TT.sq rfl ?_
  refine TT.ct rfl rfl rfl ?_
  refine TT.skip ?_
  refine TT.bk rfl ?_
  refine TT.sq rfl ?_
  refine TT.rg [0,1] [kp,kp] rfl rfl ?_
  refine DL.pu 21 (.int .i32 99) rfl (p_extract rfl rfl rfl) ?_
  refine DL.pu 6 (.int .i32 99) rfl (p_assign rfl rfl) ?_
  refine DL.nil ?_
  refine TT.sq rfl ?_
  refine TT.rg [0] [kp] rfl rfl ?_
  refine DL.mv 22 (.int .i32 99) rfl rfl rfl ?_
  refine DL.nil ?_
  refine TT.bk rfl ?_
  refine TT.sq rfl ?_
  refine TT.rg [0,1] [kp,kp] rfl rfl ?_
  refine DL.pu 37 (.bool true) rfl (show FPure _ _ _ (.bool ((99 : Int) == (99 : Int))) from p_eql rfl rfl rfl) ?_
  refine DL.pu 36 (.bool true) rfl (p_assign rfl rfl) ?_
  refine DL.nil ?_
  refine TT.ct rfl rfl rfl ?_
  refine TT.rg [0,1,2,3,4,5,6] [kp,kp,kq,kq,kA,kx,kp] rfl rfl ?_
  refine DL.mv 38 (s17_v) rfl rfl rfl ?_
  refine DL.pu 39 (ptr b1 1) rfl (p_fieldAddr ty_f36_1 rfl rfl) ?_
  refine DL.qu 40 (.int .i64 a0.client) rfl (FImm.quiet (i_loadBoxO (I:=M7) (hx7 _ _ hm_2) rfl ty_a3 rfl rfl) (fun w hc => hE15.imm hc)) ?_
  obtain ⟨g77,h78⟩:=req_some h13
  obtain ⟨g79,h80⟩:=req_some h78
  obtain ⟨t81,e82,h83⟩:=nm_some h80
  refine DL.qu 41 (str t81) rfl (by rw [e82]; exact f_callR rfl rfl (args_val (vs:=[.int .i64 a0.client]) rfl) (fun w => enter63 _ w) (fun w hc => itoa_ok (Glob.mono hG (hx2.trans hx7)) _ g77 g79 w (hE15.ext hc))) ?_
  refine DL.newS (M:=M7) (s:=Sh.str) (zs:=([t81] : List (List UInt8))) (cells:=[str t81]) (n:=1) rfl (by decide) rfl (fun i x hx => by match i,hx with | 0,hx => cases hx; exact rfl | k + 1,hx => simp at hx) (i:=4) rfl (Wn.none rfl) rfl rfl rfl (f_buildS (n:=1) (vs:=[(0,str t81)]) elem46 rfl rfl (by kernel_rfl) rfl (args_val2 rfl)) ?_
  intro s85_v s85_c ho_s85
  obtain ⟨g86,h87⟩:=req_some h83
  refine DL.appendS (M:=M7) (s:=Sh.str) (fun s88_v s88_c => [(Value.ownBlock s85_v,.cells s85_c 9 (0,0)),(some b76,.stringIter ⟨#[99]⟩ 1),(Value.ownBlock s88_v,.cells s88_c 9 (0,0)),(some b14,.cells (#[str t8,str [99]]) 86 (0,0))]) elem46 (j:=2) rfl ho_s17 g86 (by decide) (OwnS.src (i:=0) ho_s85 rfl) (i:=5) rfl (Wn.none rfl) rfl rfl rfl rfl rfl rfl (fun _ _ => rfl) ?_
  intro s88_v s88_c ho_s88
  refine DL.pu 4 (s88_v) rfl (p_assign rfl rfl) ?_
  refine DL.nil ?_
  refine TT.inBlock ?_
  refine TT.inBlock ?_
  refine TT.inLoop ?_
  refine TT.sq rfl ?_
  refine TT.rg [0,1] [kx,kp] rfl rfl ?_
  refine DL.chrE (j:=1) rfl rfl rfl rfl rfl rfl (by decide) rfl rfl ?_
  refine DL.pu 20 (.bool false) rfl (p_extract rfl rfl rfl) ?_
  refine DL.nil ?_
  refine TT.sq rfl ?_
  refine TT.cf rfl rfl rfl ?_
  refine TT.exit rfl ?_
  refine TT.sq rfl ?_
  refine TT.rg [0,1,2] [kp,kq,kp] rfl rfl ?_
  refine DL.mv 109 (s88_v) rfl rfl rfl ?_
  obtain ⟨g89,h90⟩:=req_some h87
  obtain ⟨g91,h92⟩:=req_some h90
  obtain ⟨t93,e94,h95⟩:=nm_some h92
  refine DL.qu 110 (str t93) rfl (by rw [e94]; exact f_callR rfl rfl (args_val (vs:=[s88_v,str [32]]) rfl) (fun w => enter69 _ w) (fun w hc => join_ok (i:=2) _ ho_s88 hc rfl g89 g91)) ?_
  refine DL.pu 2 (str t93) rfl (p_assign rfl rfl) ?_
  refine DL.nil ?_
  obtain rfl:=Option.some.inj h95
  exact retnE (rs:=[.tmp 2]) (vs:=[str t93]) hE15.base Tryz.func37 rfl rfl rfl (res_cons (ResV.tmp rfl) res_nil) rfl
 replace h13:=(if_neg (by simpa using hs18_2)).symm.trans h13
 by_cases hs18_3 : t11 = [110,100]
 ·
  subst hs18_3
  replace h13:=(if_pos (by decide)).symm.trans h13
  refine DL.keep (X:=Nat) (u:=fun b => ptr b 0) (H':=fun b => (some b,.stringIter ⟨#[110,100]⟩ 0) :: [(Value.ownBlock s17_v,.cells s17_c 9 (0,0)),(some b14,.cells (#[str t8,str [110,100]]) 86 (0,0))]) (fun _ p hp => List.mem_cons_of_mem _ hp) (i:=2) rfl (Wn.none rfl) rfl rfl rfl (f_rangeText (s:=⟨#[110,100]⟩) (by kernel_rfl : Tryz.prog.underlying 9 = some .string) rfl rfl) ?_
  intro b96
  refine DL.nil ?_
  refine TT.bk rfl ?_
  refine TT.lp rfl ?_
  refine TT.sq rfl ?_
  refine TT.rg [0,1] [kx,kp] rfl rfl ?_
  refine DL.chr (j:=0) (c:=110) (wd:=1) rfl rfl rfl rfl rfl rfl (by decide) (by kernel_rfl) rfl rfl ?_
  refine DL.pu 20 (.bool true) rfl (p_extract rfl rfl rfl) ?_
  refine DL.nil ?_
  refine TT.sq rfl ?_
  refine TT.ct rfl rfl rfl ?_
  refine TT.skip ?_
  refine TT.bk rfl ?_
  refine TT.sq rfl ?_
  refine TT.rg [0,1] [kp,kp] rfl rfl ?_
  refine DL.pu 21 (.int .i32 110) rfl (p_extract rfl rfl rfl) ?_
  refine DL.pu 6 (.int .i32 110) rfl (p_assign rfl rfl) ?_
  refine DL.nil ?_
  refine TT.sq rfl ?_
  refine TT.rg [0] [kp] rfl rfl ?_
  refine DL.mv 22 (.int .i32 110) rfl rfl rfl ?_
  refine DL.nil ?_
  refine TT.bk rfl ?_
  refine TT.sq rfl ?_
  refine TT.rg [0,1] [kp,kp] rfl rfl ?_
  refine DL.pu 37 (.bool false) rfl (show FPure _ _ _ (.bool ((110 : Int) == (99 : Int))) from p_eql rfl rfl rfl) ?_
  refine DL.pu 36 (.bool false) rfl (p_assign rfl rfl) ?_
  refine DL.nil ?_
  refine TT.cf rfl rfl rfl ?_
  refine TT.sq rfl ?_
  refine TT.rg [0,1] [kp,kp] rfl rfl ?_
  refine DL.pu 45 (.bool true) rfl (show FPure _ _ _ (.bool ((110 : Int) == (110 : Int))) from p_eql rfl rfl rfl) ?_
  refine DL.pu 44 (.bool true) rfl (p_assign rfl rfl) ?_
  refine DL.nil ?_
  refine TT.ct rfl rfl rfl ?_
  refine TT.rg [0,1,2,3,4,5,6] [kp,kp,kq,kq,kA,kx,kp] rfl rfl ?_
  refine DL.mv 46 (s17_v) rfl rfl rfl ?_
  refine DL.pu 47 (ptr b1 2) rfl (p_fieldAddr ty_f36_2 rfl rfl) ?_
  refine DL.qu 48 (.int .i64 a0.n) rfl (FImm.quiet (i_loadBoxO (I:=M7) (hx7 _ _ hm_2) rfl ty_a3 rfl rfl) (fun w hc => hE15.imm hc)) ?_
  obtain ⟨g97,h98⟩:=req_some h13
  obtain ⟨g99,h100⟩:=req_some h98
  obtain ⟨t101,e102,h103⟩:=nm_some h100
  refine DL.qu 49 (str t101) rfl (by rw [e102]; exact f_callR rfl rfl (args_val (vs:=[.int .i64 a0.n]) rfl) (fun w => enter63 _ w) (fun w hc => itoa_ok (Glob.mono hG (hx2.trans hx7)) _ g97 g99 w (hE15.ext hc))) ?_
  refine DL.newS (M:=M7) (s:=Sh.str) (zs:=([t101] : List (List UInt8))) (cells:=[str t101]) (n:=1) rfl (by decide) rfl (fun i x hx => by match i,hx with | 0,hx => cases hx; exact rfl | k + 1,hx => simp at hx) (i:=4) rfl (Wn.none rfl) rfl rfl rfl (f_buildS (n:=1) (vs:=[(0,str t101)]) elem46 rfl rfl (by kernel_rfl) rfl (args_val2 rfl)) ?_
  intro s105_v s105_c ho_s105
  obtain ⟨g106,h107⟩:=req_some h103
  refine DL.appendS (M:=M7) (s:=Sh.str) (fun s108_v s108_c => [(Value.ownBlock s105_v,.cells s105_c 9 (0,0)),(some b96,.stringIter ⟨#[110,100]⟩ 1),(Value.ownBlock s108_v,.cells s108_c 9 (0,0)),(some b14,.cells (#[str t8,str [110,100]]) 86 (0,0))]) elem46 (j:=2) rfl ho_s17 g106 (by decide) (OwnS.src (i:=0) ho_s105 rfl) (i:=5) rfl (Wn.none rfl) rfl rfl rfl rfl rfl rfl (fun _ _ => rfl) ?_
  intro s108_v s108_c ho_s108
  refine DL.pu 4 (s108_v) rfl (p_assign rfl rfl) ?_
  refine DL.nil ?_
  refine TT.inBlock ?_
  refine TT.inBlock ?_
  refine TT.inLoop ?_
  refine TT.sq rfl ?_
  refine TT.rg [0,1] [kx,kp] rfl rfl ?_
  refine DL.chr (j:=1) (c:=100) (wd:=1) rfl rfl rfl rfl rfl rfl (by decide) (by kernel_rfl) rfl rfl ?_
  refine DL.pu 20 (.bool true) rfl (p_extract rfl rfl rfl) ?_
  refine DL.nil ?_
  refine TT.sq rfl ?_
  refine TT.ct rfl rfl rfl ?_
  refine TT.skip ?_
  refine TT.bk rfl ?_
  refine TT.sq rfl ?_
  refine TT.rg [0,1] [kp,kp] rfl rfl ?_
  refine DL.pu 21 (.int .i32 100) rfl (p_extract rfl rfl rfl) ?_
  refine DL.pu 6 (.int .i32 100) rfl (p_assign rfl rfl) ?_
  refine DL.nil ?_
  refine TT.sq rfl ?_
  refine TT.rg [0] [kp] rfl rfl ?_
  refine DL.mv 22 (.int .i32 100) rfl rfl rfl ?_
  refine DL.nil ?_
  refine TT.bk rfl ?_
  refine TT.sq rfl ?_
  refine TT.rg [0,1] [kp,kp] rfl rfl ?_
  refine DL.pu 37 (.bool false) rfl (show FPure _ _ _ (.bool ((100 : Int) == (99 : Int))) from p_eql rfl rfl rfl) ?_
  refine DL.pu 36 (.bool false) rfl (p_assign rfl rfl) ?_
  refine DL.nil ?_
  refine TT.cf rfl rfl rfl ?_
  refine TT.sq rfl ?_
  refine TT.rg [0,1] [kp,kp] rfl rfl ?_
  refine DL.pu 45 (.bool false) rfl (show FPure _ _ _ (.bool ((100 : Int) == (110 : Int))) from p_eql rfl rfl rfl) ?_
  refine DL.pu 44 (.bool false) rfl (p_assign rfl rfl) ?_
  refine DL.nil ?_
  refine TT.cf rfl rfl rfl ?_
  refine TT.sq rfl ?_
  refine TT.rg [0,1] [kp,kp] rfl rfl ?_
  refine DL.pu 53 (.bool false) rfl (show FPure _ _ _ (.bool ((100 : Int) == (97 : Int))) from p_eql rfl rfl rfl) ?_
  refine DL.pu 52 (.bool false) rfl (p_assign rfl rfl) ?_
  refine DL.nil ?_
  refine TT.cf rfl rfl rfl ?_
  refine TT.sq rfl ?_
  refine TT.rg [0,1] [kp,kp] rfl rfl ?_
  refine DL.pu 61 (.bool false) rfl (show FPure _ _ _ (.bool ((100 : Int) == (98 : Int))) from p_eql rfl rfl rfl) ?_
  refine DL.pu 60 (.bool false) rfl (p_assign rfl rfl) ?_
  refine DL.nil ?_
  refine TT.cf rfl rfl rfl ?_
  refine TT.sq rfl ?_
  refine TT.rg [0,1] [kp,kp] rfl rfl ?_
  refine DL.pu 70 (.bool false) rfl (show FPure _ _ _ (.bool ((100 : Int) == (116 : Int))) from p_eql rfl rfl rfl) ?_
  refine DL.pu 69 (.bool false) rfl (p_assign rfl rfl) ?_
  refine DL.nil ?_
  refine TT.cf rfl rfl rfl ?_
  refine TT.sq rfl ?_
  refine TT.rg [0,1] [kp,kp] rfl rfl ?_
  refine DL.pu 78 (.bool false) rfl (show FPure _ _ _ (.bool ((100 : Int) == (102 : Int))) from p_eql rfl rfl rfl) ?_
  refine DL.pu 77 (.bool false) rfl (p_assign rfl rfl) ?_
  refine DL.nil ?_
  refine TT.cf rfl rfl rfl ?_
  refine TT.sq rfl ?_
  refine TT.rg [0,1] [kp,kp] rfl rfl ?_
  refine DL.pu 86 (.bool true) rfl (show FPure _ _ _ (.bool ((100 : Int) == (100 : Int))) from p_eql rfl rfl rfl) ?_
  refine DL.pu 85 (.bool true) rfl (p_assign rfl rfl) ?_
  refine DL.nil ?_
  refine TT.ct rfl rfl rfl ?_
  refine TT.rg [0,1,2,3,4,5,6] [kp,kp,kp,kq,kA,kx,kp] rfl rfl ?_
  refine DL.mv 87 (s108_v) rfl rfl rfl ?_
  refine DL.pu 88 (ptr b1 38) rfl (p_fieldAddr ty_f36_7 rfl rfl) ?_
  obtain ⟨v109,v109_e⟩ : ∃ u,u = Value.slice (some ⟨b1,38,none⟩) 32 32:=⟨_,rfl⟩
  have hr_v109 : IntRow M7 .u8 v109 (pad32 a0.draw):=by rw [v109_e]; exact row_of_box (hx7 _ _ hm_2) rfl rfl
  refine DL.pu 89 (v109) rfl (by rw [v109_e]; exact p_sliceBox (fun w => by kernel_rfl) rfl rfl) ?_
  obtain ⟨t110,h111,h112⟩:=bind_some h107
  refine DL.qu 90 (str t110) rfl (f_callR rfl rfl (args_val (vs:=[v109]) rfl) (fun w => enter86 _ w) (fun w hc => wire_Hex.val h111 (M:=M7) w (hE15.ext hc) hr_v109)) ?_
  refine DL.newS (M:=M7) (s:=Sh.str) (zs:=([t110] : List (List UInt8))) (cells:=[str t110]) (n:=1) rfl (by decide) rfl (fun i x hx => by match i,hx with | 0,hx => cases hx; exact rfl | k + 1,hx => simp at hx) (i:=4) rfl (Wn.none rfl) rfl rfl rfl (f_buildS (n:=1) (vs:=[(0,str t110)]) elem46 rfl rfl (by kernel_rfl) rfl (args_val2 rfl)) ?_
  intro s114_v s114_c ho_s114
  obtain ⟨g115,h116⟩:=req_some h112
  refine DL.appendS (M:=M7) (s:=Sh.str) (fun s117_v s117_c => [(Value.ownBlock s114_v,.cells s114_c 9 (0,0)),(Value.ownBlock s105_v,.cells s105_c 9 (0,0)),(some b96,.stringIter ⟨#[110,100]⟩ 2),(Value.ownBlock s117_v,.cells s117_c 9 (0,0)),(some b14,.cells (#[str t8,str [110,100]]) 86 (0,0))]) elem46 (j:=3) rfl ho_s108 g115 (by decide) (OwnS.src (i:=0) ho_s114 rfl) (i:=5) rfl (Wn.none rfl) rfl rfl rfl rfl rfl rfl (fun _ _ => rfl) ?_
  intro s117_v s117_c ho_s117
  refine DL.pu 4 (s117_v) rfl (p_assign rfl rfl) ?_
  refine DL.nil ?_
  refine TT.inBlock ?_
  refine TT.inBlock ?_
  refine TT.inLoop ?_
  refine TT.sq rfl ?_
  refine TT.rg [0,1] [kx,kp] rfl rfl ?_
  refine DL.chrE (j:=2) rfl rfl rfl rfl rfl rfl (by decide) rfl rfl ?_
  refine DL.pu 20 (.bool false) rfl (p_extract rfl rfl rfl) ?_
  refine DL.nil ?_
  refine TT.sq rfl ?_
  refine TT.cf rfl rfl rfl ?_
  refine TT.exit rfl ?_
  refine TT.sq rfl ?_
  refine TT.rg [0,1,2] [kp,kq,kp] rfl rfl ?_
  refine DL.mv 109 (s117_v) rfl rfl rfl ?_
  obtain ⟨g118,h119⟩:=req_some h116
  obtain ⟨g120,h121⟩:=req_some h119
  obtain ⟨t122,e123,h124⟩:=nm_some h121
  refine DL.qu 110 (str t122) rfl (by rw [e123]; exact f_callR rfl rfl (args_val (vs:=[s117_v,str [32]]) rfl) (fun w => enter69 _ w) (fun w hc => join_ok (i:=3) _ ho_s117 hc rfl g118 g120)) ?_
  refine DL.pu 2 (str t122) rfl (p_assign rfl rfl) ?_
  refine DL.nil ?_
  obtain rfl:=Option.some.inj h124
  exact retnE (rs:=[.tmp 2]) (vs:=[str t122]) hE15.base Tryz.func37 rfl rfl rfl (res_cons (ResV.tmp rfl) res_nil) rfl
 replace h13:=(if_neg (by simpa using hs18_3)).symm.trans h13
 by_cases hs18_4 : t11 = [99,110]
 ·
  subst hs18_4
  replace h13:=(if_pos (by decide)).symm.trans h13
  refine DL.keep (X:=Nat) (u:=fun b => ptr b 0) (H':=fun b => (some b,.stringIter ⟨#[99,110]⟩ 0) :: [(Value.ownBlock s17_v,.cells s17_c 9 (0,0)),(some b14,.cells (#[str t8,str [99,110]]) 86 (0,0))]) (fun _ p hp => List.mem_cons_of_mem _ hp) (i:=2) rfl (Wn.none rfl) rfl rfl rfl (f_rangeText (s:=⟨#[99,110]⟩) (by kernel_rfl : Tryz.prog.underlying 9 = some .string) rfl rfl) ?_
  intro b125
  refine DL.nil ?_
  refine TT.bk rfl ?_
  refine TT.lp rfl ?_
  refine TT.sq rfl ?_
  refine TT.rg [0,1] [kx,kp] rfl rfl ?_
  refine DL.chr (j:=0) (c:=99) (wd:=1) rfl rfl rfl rfl rfl rfl (by decide) (by kernel_rfl) rfl rfl ?_
  refine DL.pu 20 (.bool true) rfl (p_extract rfl rfl rfl) ?_
  refine DL.nil ?_
  refine TT.sq rfl ?_
  refine TT.ct rfl rfl rfl ?_
  refine TT.skip ?_
  refine TT.bk rfl ?_
  refine TT.sq rfl ?_
  refine TT.rg [0,1] [kp,kp] rfl rfl ?_
  refine DL.pu 21 (.int .i32 99) rfl (p_extract rfl rfl rfl) ?_
  refine DL.pu 6 (.int .i32 99) rfl (p_assign rfl rfl) ?_
  refine DL.nil ?_
  refine TT.sq rfl ?_
  refine TT.rg [0] [kp] rfl rfl ?_
  refine DL.mv 22 (.int .i32 99) rfl rfl rfl ?_
  refine DL.nil ?_
  refine TT.bk rfl ?_
  refine TT.sq rfl ?_
  refine TT.rg [0,1] [kp,kp] rfl rfl ?_
  refine DL.pu 37 (.bool true) rfl (show FPure _ _ _ (.bool ((99 : Int) == (99 : Int))) from p_eql rfl rfl rfl) ?_
  refine DL.pu 36 (.bool true) rfl (p_assign rfl rfl) ?_
  refine DL.nil ?_
  refine TT.ct rfl rfl rfl ?_
  refine TT.rg [0,1,2,3,4,5,6] [kp,kp,kq,kq,kA,kx,kp] rfl rfl ?_
  refine DL.mv 38 (s17_v) rfl rfl rfl ?_
  refine DL.pu 39 (ptr b1 1) rfl (p_fieldAddr ty_f36_1 rfl rfl) ?_
  refine DL.qu 40 (.int .i64 a0.client) rfl (FImm.quiet (i_loadBoxO (I:=M7) (hx7 _ _ hm_2) rfl ty_a3 rfl rfl) (fun w hc => hE15.imm hc)) ?_
  obtain ⟨g126,h127⟩:=req_some h13
  obtain ⟨g128,h129⟩:=req_some h127
  obtain ⟨t130,e131,h132⟩:=nm_some h129
  refine DL.qu 41 (str t130) rfl (by rw [e131]; exact f_callR rfl rfl (args_val (vs:=[.int .i64 a0.client]) rfl) (fun w => enter63 _ w) (fun w hc => itoa_ok (Glob.mono hG (hx2.trans hx7)) _ g126 g128 w (hE15.ext hc))) ?_
  refine DL.newS (M:=M7) (s:=Sh.str) (zs:=([t130] : List (List UInt8))) (cells:=[str t130]) (n:=1) rfl (by decide) rfl (fun i x hx => by match i,hx with | 0,hx => cases hx; exact rfl | k + 1,hx => simp at hx) (i:=4) rfl (Wn.none rfl) rfl rfl rfl (f_buildS (n:=1) (vs:=[(0,str t130)]) elem46 rfl rfl (by kernel_rfl) rfl (args_val2 rfl)) ?_
  intro s134_v s134_c ho_s134
  obtain ⟨g135,h136⟩:=req_some h132
  refine DL.appendS (M:=M7) (s:=Sh.str) (fun s137_v s137_c => [(Value.ownBlock s134_v,.cells s134_c 9 (0,0)),(some b125,.stringIter ⟨#[99,110]⟩ 1),(Value.ownBlock s137_v,.cells s137_c 9 (0,0)),(some b14,.cells (#[str t8,str [99,110]]) 86 (0,0))]) elem46 (j:=2) rfl ho_s17 g135 (by decide) (OwnS.src (i:=0) ho_s134 rfl) (i:=5) rfl (Wn.none rfl) rfl rfl rfl rfl rfl rfl (fun _ _ => rfl) ?_
  intro s137_v s137_c ho_s137
  refine DL.pu 4 (s137_v) rfl (p_assign rfl rfl) ?_
  refine DL.nil ?_
  refine TT.inBlock ?_
  refine TT.inBlock ?_
  refine TT.inLoop ?_
  refine TT.sq rfl ?_
  refine TT.rg [0,1] [kx,kp] rfl rfl ?_
  refine DL.chr (j:=1) (c:=110) (wd:=1) rfl rfl rfl rfl rfl rfl (by decide) (by kernel_rfl) rfl rfl ?_
  refine DL.pu 20 (.bool true) rfl (p_extract rfl rfl rfl) ?_
  refine DL.nil ?_
  refine TT.sq rfl ?_
  refine TT.ct rfl rfl rfl ?_
  refine TT.skip ?_
  refine TT.bk rfl ?_
  refine TT.sq rfl ?_
  refine TT.rg [0,1] [kp,kp] rfl rfl ?_
  refine DL.pu 21 (.int .i32 110) rfl (p_extract rfl rfl rfl) ?_
  refine DL.pu 6 (.int .i32 110) rfl (p_assign rfl rfl) ?_
  refine DL.nil ?_
  refine TT.sq rfl ?_
  refine TT.rg [0] [kp] rfl rfl ?_
  refine DL.mv 22 (.int .i32 110) rfl rfl rfl ?_
  refine DL.nil ?_
  refine TT.bk rfl ?_
  refine TT.sq rfl ?_
  refine TT.rg [0,1] [kp,kp] rfl rfl ?_
  refine DL.pu 37 (.bool false) rfl (show FPure _ _ _ (.bool ((110 : Int) == (99 : Int))) from p_eql rfl rfl rfl) ?_
  refine DL.pu 36 (.bool false) rfl (p_assign rfl rfl) ?_
  refine DL.nil ?_
  refine TT.cf rfl rfl rfl ?_
  refine TT.sq rfl ?_
  refine TT.rg [0,1] [kp,kp] rfl rfl ?_
  refine DL.pu 45 (.bool true) rfl (show FPure _ _ _ (.bool ((110 : Int) == (110 : Int))) from p_eql rfl rfl rfl) ?_
  refine DL.pu 44 (.bool true) rfl (p_assign rfl rfl) ?_
  refine DL.nil ?_
  refine TT.ct rfl rfl rfl ?_
  refine TT.rg [0,1,2,3,4,5,6] [kp,kp,kq,kq,kA,kx,kp] rfl rfl ?_
  refine DL.mv 46 (s137_v) rfl rfl rfl ?_
  refine DL.pu 47 (ptr b1 2) rfl (p_fieldAddr ty_f36_2 rfl rfl) ?_
  refine DL.qu 48 (.int .i64 a0.n) rfl (FImm.quiet (i_loadBoxO (I:=M7) (hx7 _ _ hm_2) rfl ty_a3 rfl rfl) (fun w hc => hE15.imm hc)) ?_
  obtain ⟨g138,h139⟩:=req_some h136
  obtain ⟨g140,h141⟩:=req_some h139
  obtain ⟨t142,e143,h144⟩:=nm_some h141
  refine DL.qu 49 (str t142) rfl (by rw [e143]; exact f_callR rfl rfl (args_val (vs:=[.int .i64 a0.n]) rfl) (fun w => enter63 _ w) (fun w hc => itoa_ok (Glob.mono hG (hx2.trans hx7)) _ g138 g140 w (hE15.ext hc))) ?_
  refine DL.newS (M:=M7) (s:=Sh.str) (zs:=([t142] : List (List UInt8))) (cells:=[str t142]) (n:=1) rfl (by decide) rfl (fun i x hx => by match i,hx with | 0,hx => cases hx; exact rfl | k + 1,hx => simp at hx) (i:=4) rfl (Wn.none rfl) rfl rfl rfl (f_buildS (n:=1) (vs:=[(0,str t142)]) elem46 rfl rfl (by kernel_rfl) rfl (args_val2 rfl)) ?_
  intro s146_v s146_c ho_s146
  obtain ⟨g147,h148⟩:=req_some h144
  refine DL.appendS (M:=M7) (s:=Sh.str) (fun s149_v s149_c => [(Value.ownBlock s146_v,.cells s146_c 9 (0,0)),(Value.ownBlock s134_v,.cells s134_c 9 (0,0)),(some b125,.stringIter ⟨#[99,110]⟩ 2),(Value.ownBlock s149_v,.cells s149_c 9 (0,0)),(some b14,.cells (#[str t8,str [99,110]]) 86 (0,0))]) elem46 (j:=3) rfl ho_s137 g147 (by decide) (OwnS.src (i:=0) ho_s146 rfl) (i:=5) rfl (Wn.none rfl) rfl rfl rfl rfl rfl rfl (fun _ _ => rfl) ?_
  intro s149_v s149_c ho_s149
  refine DL.pu 4 (s149_v) rfl (p_assign rfl rfl) ?_
  refine DL.nil ?_
  refine TT.inBlock ?_
  refine TT.inBlock ?_
  refine TT.inLoop ?_
  refine TT.sq rfl ?_
  refine TT.rg [0,1] [kx,kp] rfl rfl ?_
  refine DL.chrE (j:=2) rfl rfl rfl rfl rfl rfl (by decide) rfl rfl ?_
  refine DL.pu 20 (.bool false) rfl (p_extract rfl rfl rfl) ?_
  refine DL.nil ?_
  refine TT.sq rfl ?_
  refine TT.cf rfl rfl rfl ?_
  refine TT.exit rfl ?_
  refine TT.sq rfl ?_
  refine TT.rg [0,1,2] [kp,kq,kp] rfl rfl ?_
  refine DL.mv 109 (s149_v) rfl rfl rfl ?_
  obtain ⟨g150,h151⟩:=req_some h148
  obtain ⟨g152,h153⟩:=req_some h151
  obtain ⟨t154,e155,h156⟩:=nm_some h153
  refine DL.qu 110 (str t154) rfl (by rw [e155]; exact f_callR rfl rfl (args_val (vs:=[s149_v,str [32]]) rfl) (fun w => enter69 _ w) (fun w hc => join_ok (i:=3) _ ho_s149 hc rfl g150 g152)) ?_
  refine DL.pu 2 (str t154) rfl (p_assign rfl rfl) ?_
  refine DL.nil ?_
  obtain rfl:=Option.some.inj h156
  exact retnE (rs:=[.tmp 2]) (vs:=[str t154]) hE15.base Tryz.func37 rfl rfl rfl (res_cons (ResV.tmp rfl) res_nil) rfl
 replace h13:=(if_neg (by simpa using hs18_4)).symm.trans h13
 by_cases hs18_5 : t11 = [121,100]
 ·
  subst hs18_5
  replace h13:=(if_pos (by decide)).symm.trans h13
  refine DL.keep (X:=Nat) (u:=fun b => ptr b 0) (H':=fun b => (some b,.stringIter ⟨#[121,100]⟩ 0) :: [(Value.ownBlock s17_v,.cells s17_c 9 (0,0)),(some b14,.cells (#[str t8,str [121,100]]) 86 (0,0))]) (fun _ p hp => List.mem_cons_of_mem _ hp) (i:=2) rfl (Wn.none rfl) rfl rfl rfl (f_rangeText (s:=⟨#[121,100]⟩) (by kernel_rfl : Tryz.prog.underlying 9 = some .string) rfl rfl) ?_
  intro b157
  refine DL.nil ?_
  refine TT.bk rfl ?_
  refine TT.lp rfl ?_
  refine TT.sq rfl ?_
  refine TT.rg [0,1] [kx,kp] rfl rfl ?_
  refine DL.chr (j:=0) (c:=121) (wd:=1) rfl rfl rfl rfl rfl rfl (by decide) (by kernel_rfl) rfl rfl ?_
  refine DL.pu 20 (.bool true) rfl (p_extract rfl rfl rfl) ?_
  refine DL.nil ?_
  refine TT.sq rfl ?_
  refine TT.ct rfl rfl rfl ?_
  refine TT.skip ?_
  refine TT.bk rfl ?_
  refine TT.sq rfl ?_
  refine TT.rg [0,1] [kp,kp] rfl rfl ?_
  refine DL.pu 21 (.int .i32 121) rfl (p_extract rfl rfl rfl) ?_
  refine DL.pu 6 (.int .i32 121) rfl (p_assign rfl rfl) ?_
  refine DL.nil ?_
  refine TT.sq rfl ?_
  refine TT.rg [0] [kp] rfl rfl ?_
  refine DL.mv 22 (.int .i32 121) rfl rfl rfl ?_
  refine DL.nil ?_
  refine TT.bk rfl ?_
  refine TT.sq rfl ?_
  refine TT.rg [0,1] [kp,kp] rfl rfl ?_
  refine DL.pu 37 (.bool false) rfl (show FPure _ _ _ (.bool ((121 : Int) == (99 : Int))) from p_eql rfl rfl rfl) ?_
  refine DL.pu 36 (.bool false) rfl (p_assign rfl rfl) ?_
  refine DL.nil ?_
  refine TT.cf rfl rfl rfl ?_
  refine TT.sq rfl ?_
  refine TT.rg [0,1] [kp,kp] rfl rfl ?_
  refine DL.pu 45 (.bool false) rfl (show FPure _ _ _ (.bool ((121 : Int) == (110 : Int))) from p_eql rfl rfl rfl) ?_
  refine DL.pu 44 (.bool false) rfl (p_assign rfl rfl) ?_
  refine DL.nil ?_
  refine TT.cf rfl rfl rfl ?_
  refine TT.sq rfl ?_
  refine TT.rg [0,1] [kp,kp] rfl rfl ?_
  refine DL.pu 53 (.bool false) rfl (show FPure _ _ _ (.bool ((121 : Int) == (97 : Int))) from p_eql rfl rfl rfl) ?_
  refine DL.pu 52 (.bool false) rfl (p_assign rfl rfl) ?_
  refine DL.nil ?_
  refine TT.cf rfl rfl rfl ?_
  refine TT.sq rfl ?_
  refine TT.rg [0,1] [kp,kp] rfl rfl ?_
  refine DL.pu 61 (.bool false) rfl (show FPure _ _ _ (.bool ((121 : Int) == (98 : Int))) from p_eql rfl rfl rfl) ?_
  refine DL.pu 60 (.bool false) rfl (p_assign rfl rfl) ?_
  refine DL.nil ?_
  refine TT.cf rfl rfl rfl ?_
  refine TT.sq rfl ?_
  refine TT.rg [0,1] [kp,kp] rfl rfl ?_
  refine DL.pu 70 (.bool false) rfl (show FPure _ _ _ (.bool ((121 : Int) == (116 : Int))) from p_eql rfl rfl rfl) ?_
  refine DL.pu 69 (.bool false) rfl (p_assign rfl rfl) ?_
  refine DL.nil ?_
  refine TT.cf rfl rfl rfl ?_
  refine TT.sq rfl ?_
  refine TT.rg [0,1] [kp,kp] rfl rfl ?_
  refine DL.pu 78 (.bool false) rfl (show FPure _ _ _ (.bool ((121 : Int) == (102 : Int))) from p_eql rfl rfl rfl) ?_
  refine DL.pu 77 (.bool false) rfl (p_assign rfl rfl) ?_
  refine DL.nil ?_
  refine TT.cf rfl rfl rfl ?_
  refine TT.sq rfl ?_
  refine TT.rg [0,1] [kp,kp] rfl rfl ?_
  refine DL.pu 86 (.bool false) rfl (show FPure _ _ _ (.bool ((121 : Int) == (100 : Int))) from p_eql rfl rfl rfl) ?_
  refine DL.pu 85 (.bool false) rfl (p_assign rfl rfl) ?_
  refine DL.nil ?_
  refine TT.cf rfl rfl rfl ?_
  refine TT.sq rfl ?_
  refine TT.rg [0,1] [kp,kp] rfl rfl ?_
  refine DL.pu 94 (.bool false) rfl (show FPure _ _ _ (.bool ((121 : Int) == (109 : Int))) from p_eql rfl rfl rfl) ?_
  refine DL.pu 93 (.bool false) rfl (p_assign rfl rfl) ?_
  refine DL.nil ?_
  refine TT.cf rfl rfl rfl ?_
  refine TT.sq rfl ?_
  refine TT.rg [0,1] [kp,kp] rfl rfl ?_
  refine DL.pu 102 (.bool true) rfl (show FPure _ _ _ (.bool ((121 : Int) == (121 : Int))) from p_eql rfl rfl rfl) ?_
  refine DL.pu 101 (.bool true) rfl (p_assign rfl rfl) ?_
  refine DL.nil ?_
  refine TT.ct rfl rfl rfl ?_
  refine TT.rg [0,1,2,3,4,5,6] [kp,kp,kq,kq,kA,kx,kp] rfl rfl ?_
  refine DL.mv 103 (s17_v) rfl rfl rfl ?_
  refine DL.pu 104 (ptr b1 109) rfl (p_fieldAddr ty_f36_9 rfl rfl) ?_
  refine DL.qu 105 (a0_109) rfl (FImm.quiet (i_loadBoxO (I:=M7) (hx7 _ _ hm_2) rfl ty_a31 rfl rfl) (fun w hc => hE15.imm hc)) ?_
  obtain ⟨t158,h159,h160⟩:=bind_some h13
  refine DL.qu 106 (str t158) rfl (f_callR rfl rfl (args_val (vs:=[a0_109]) rfl) (fun w => enter68 _ w) (fun w hc => script_digits.val h159 (M:=M7) w (hE15.ext hc) (IntRow.mono hr_a0_109 (hx2.trans hx7)))) ?_
  refine DL.newS (M:=M7) (s:=Sh.str) (zs:=([t158] : List (List UInt8))) (cells:=[str t158]) (n:=1) rfl (by decide) rfl (fun i x hx => by match i,hx with | 0,hx => cases hx; exact rfl | k + 1,hx => simp at hx) (i:=4) rfl (Wn.none rfl) rfl rfl rfl (f_buildS (n:=1) (vs:=[(0,str t158)]) elem46 rfl rfl (by kernel_rfl) rfl (args_val2 rfl)) ?_
  intro s162_v s162_c ho_s162
  obtain ⟨g163,h164⟩:=req_some h160
  refine DL.appendS (M:=M7) (s:=Sh.str) (fun s165_v s165_c => [(Value.ownBlock s162_v,.cells s162_c 9 (0,0)),(some b157,.stringIter ⟨#[121,100]⟩ 1),(Value.ownBlock s165_v,.cells s165_c 9 (0,0)),(some b14,.cells (#[str t8,str [121,100]]) 86 (0,0))]) elem46 (j:=2) rfl ho_s17 g163 (by decide) (OwnS.src (i:=0) ho_s162 rfl) (i:=5) rfl (Wn.none rfl) rfl rfl rfl rfl rfl rfl (fun _ _ => rfl) ?_
  intro s165_v s165_c ho_s165
  refine DL.pu 4 (s165_v) rfl (p_assign rfl rfl) ?_
  refine DL.nil ?_
  refine TT.inBlock ?_
  refine TT.inBlock ?_
  refine TT.inLoop ?_
  refine TT.sq rfl ?_
  refine TT.rg [0,1] [kx,kp] rfl rfl ?_
  refine DL.chr (j:=1) (c:=100) (wd:=1) rfl rfl rfl rfl rfl rfl (by decide) (by kernel_rfl) rfl rfl ?_
  refine DL.pu 20 (.bool true) rfl (p_extract rfl rfl rfl) ?_
  refine DL.nil ?_
  refine TT.sq rfl ?_
  refine TT.ct rfl rfl rfl ?_
  refine TT.skip ?_
  refine TT.bk rfl ?_
  refine TT.sq rfl ?_
  refine TT.rg [0,1] [kp,kp] rfl rfl ?_
  refine DL.pu 21 (.int .i32 100) rfl (p_extract rfl rfl rfl) ?_
  refine DL.pu 6 (.int .i32 100) rfl (p_assign rfl rfl) ?_
  refine DL.nil ?_
  refine TT.sq rfl ?_
  refine TT.rg [0] [kp] rfl rfl ?_
  refine DL.mv 22 (.int .i32 100) rfl rfl rfl ?_
  refine DL.nil ?_
  refine TT.bk rfl ?_
  refine TT.sq rfl ?_
  refine TT.rg [0,1] [kp,kp] rfl rfl ?_
  refine DL.pu 37 (.bool false) rfl (show FPure _ _ _ (.bool ((100 : Int) == (99 : Int))) from p_eql rfl rfl rfl) ?_
  refine DL.pu 36 (.bool false) rfl (p_assign rfl rfl) ?_
  refine DL.nil ?_
  refine TT.cf rfl rfl rfl ?_
  refine TT.sq rfl ?_
  refine TT.rg [0,1] [kp,kp] rfl rfl ?_
  refine DL.pu 45 (.bool false) rfl (show FPure _ _ _ (.bool ((100 : Int) == (110 : Int))) from p_eql rfl rfl rfl) ?_
  refine DL.pu 44 (.bool false) rfl (p_assign rfl rfl) ?_
  refine DL.nil ?_
  refine TT.cf rfl rfl rfl ?_
  refine TT.sq rfl ?_
  refine TT.rg [0,1] [kp,kp] rfl rfl ?_
  refine DL.pu 53 (.bool false) rfl (show FPure _ _ _ (.bool ((100 : Int) == (97 : Int))) from p_eql rfl rfl rfl) ?_
  refine DL.pu 52 (.bool false) rfl (p_assign rfl rfl) ?_
  refine DL.nil ?_
  refine TT.cf rfl rfl rfl ?_
  refine TT.sq rfl ?_
  refine TT.rg [0,1] [kp,kp] rfl rfl ?_
  refine DL.pu 61 (.bool false) rfl (show FPure _ _ _ (.bool ((100 : Int) == (98 : Int))) from p_eql rfl rfl rfl) ?_
  refine DL.pu 60 (.bool false) rfl (p_assign rfl rfl) ?_
  refine DL.nil ?_
  refine TT.cf rfl rfl rfl ?_
  refine TT.sq rfl ?_
  refine TT.rg [0,1] [kp,kp] rfl rfl ?_
  refine DL.pu 70 (.bool false) rfl (show FPure _ _ _ (.bool ((100 : Int) == (116 : Int))) from p_eql rfl rfl rfl) ?_
  refine DL.pu 69 (.bool false) rfl (p_assign rfl rfl) ?_
  refine DL.nil ?_
  refine TT.cf rfl rfl rfl ?_
  refine TT.sq rfl ?_
  refine TT.rg [0,1] [kp,kp] rfl rfl ?_
  refine DL.pu 78 (.bool false) rfl (show FPure _ _ _ (.bool ((100 : Int) == (102 : Int))) from p_eql rfl rfl rfl) ?_
  refine DL.pu 77 (.bool false) rfl (p_assign rfl rfl) ?_
  refine DL.nil ?_
  refine TT.cf rfl rfl rfl ?_
  refine TT.sq rfl ?_
  refine TT.rg [0,1] [kp,kp] rfl rfl ?_
  refine DL.pu 86 (.bool true) rfl (show FPure _ _ _ (.bool ((100 : Int) == (100 : Int))) from p_eql rfl rfl rfl) ?_
  refine DL.pu 85 (.bool true) rfl (p_assign rfl rfl) ?_
  refine DL.nil ?_
  refine TT.ct rfl rfl rfl ?_
  refine TT.rg [0,1,2,3,4,5,6] [kp,kp,kp,kq,kA,kx,kp] rfl rfl ?_
  refine DL.mv 87 (s165_v) rfl rfl rfl ?_
  refine DL.pu 88 (ptr b1 38) rfl (p_fieldAddr ty_f36_7 rfl rfl) ?_
  obtain ⟨v166,v166_e⟩ : ∃ u,u = Value.slice (some ⟨b1,38,none⟩) 32 32:=⟨_,rfl⟩
  have hr_v166 : IntRow M7 .u8 v166 (pad32 a0.draw):=by rw [v166_e]; exact row_of_box (hx7 _ _ hm_2) rfl rfl
  refine DL.pu 89 (v166) rfl (by rw [v166_e]; exact p_sliceBox (fun w => by kernel_rfl) rfl rfl) ?_
  obtain ⟨t167,h168,h169⟩:=bind_some h164
  refine DL.qu 90 (str t167) rfl (f_callR rfl rfl (args_val (vs:=[v166]) rfl) (fun w => enter86 _ w) (fun w hc => wire_Hex.val h168 (M:=M7) w (hE15.ext hc) hr_v166)) ?_
  refine DL.newS (M:=M7) (s:=Sh.str) (zs:=([t167] : List (List UInt8))) (cells:=[str t167]) (n:=1) rfl (by decide) rfl (fun i x hx => by match i,hx with | 0,hx => cases hx; exact rfl | k + 1,hx => simp at hx) (i:=4) rfl (Wn.none rfl) rfl rfl rfl (f_buildS (n:=1) (vs:=[(0,str t167)]) elem46 rfl rfl (by kernel_rfl) rfl (args_val2 rfl)) ?_
  intro s171_v s171_c ho_s171
  obtain ⟨g172,h173⟩:=req_some h169
  refine DL.appendS (M:=M7) (s:=Sh.str) (fun s174_v s174_c => [(Value.ownBlock s171_v,.cells s171_c 9 (0,0)),(Value.ownBlock s162_v,.cells s162_c 9 (0,0)),(some b157,.stringIter ⟨#[121,100]⟩ 2),(Value.ownBlock s174_v,.cells s174_c 9 (0,0)),(some b14,.cells (#[str t8,str [121,100]]) 86 (0,0))]) elem46 (j:=3) rfl ho_s165 g172 (by decide) (OwnS.src (i:=0) ho_s171 rfl) (i:=5) rfl (Wn.none rfl) rfl rfl rfl rfl rfl rfl (fun _ _ => rfl) ?_
  intro s174_v s174_c ho_s174
  refine DL.pu 4 (s174_v) rfl (p_assign rfl rfl) ?_
  refine DL.nil ?_
  refine TT.inBlock ?_
  refine TT.inBlock ?_
  refine TT.inLoop ?_
  refine TT.sq rfl ?_
  refine TT.rg [0,1] [kx,kp] rfl rfl ?_
  refine DL.chrE (j:=2) rfl rfl rfl rfl rfl rfl (by decide) rfl rfl ?_
  refine DL.pu 20 (.bool false) rfl (p_extract rfl rfl rfl) ?_
  refine DL.nil ?_
  refine TT.sq rfl ?_
  refine TT.cf rfl rfl rfl ?_
  refine TT.exit rfl ?_
  refine TT.sq rfl ?_
  refine TT.rg [0,1,2] [kp,kq,kp] rfl rfl ?_
  refine DL.mv 109 (s174_v) rfl rfl rfl ?_
  obtain ⟨g175,h176⟩:=req_some h173
  obtain ⟨g177,h178⟩:=req_some h176
  obtain ⟨t179,e180,h181⟩:=nm_some h178
  refine DL.qu 110 (str t179) rfl (by rw [e180]; exact f_callR rfl rfl (args_val (vs:=[s174_v,str [32]]) rfl) (fun w => enter69 _ w) (fun w hc => join_ok (i:=3) _ ho_s174 hc rfl g175 g177)) ?_
  refine DL.pu 2 (str t179) rfl (p_assign rfl rfl) ?_
  refine DL.nil ?_
  obtain rfl:=Option.some.inj h181
  exact retnE (rs:=[.tmp 2]) (vs:=[str t179]) hE15.base Tryz.func37 rfl rfl rfl (res_cons (ResV.tmp rfl) res_nil) rfl
 replace h13:=(if_neg (by simpa using hs18_5)).symm.trans h13
 by_cases hs18_6 : t11 = [110,97,98,100]
 ·
  subst hs18_6
  replace h13:=(if_pos (by decide)).symm.trans h13
  refine DL.keep (X:=Nat) (u:=fun b => ptr b 0) (H':=fun b => (some b,.stringIter ⟨#[110,97,98,100]⟩ 0) :: [(Value.ownBlock s17_v,.cells s17_c 9 (0,0)),(some b14,.cells (#[str t8,str [110,97,98,100]]) 86 (0,0))]) (fun _ p hp => List.mem_cons_of_mem _ hp) (i:=2) rfl (Wn.none rfl) rfl rfl rfl (f_rangeText (s:=⟨#[110,97,98,100]⟩) (by kernel_rfl : Tryz.prog.underlying 9 = some .string) rfl rfl) ?_
  intro b182
  refine DL.nil ?_
  refine TT.bk rfl ?_
  refine TT.lp rfl ?_
  refine TT.sq rfl ?_
  refine TT.rg [0,1] [kx,kp] rfl rfl ?_
  refine DL.chr (j:=0) (c:=110) (wd:=1) rfl rfl rfl rfl rfl rfl (by decide) (by kernel_rfl) rfl rfl ?_
  refine DL.pu 20 (.bool true) rfl (p_extract rfl rfl rfl) ?_
  refine DL.nil ?_
  refine TT.sq rfl ?_
  refine TT.ct rfl rfl rfl ?_
  refine TT.skip ?_
  refine TT.bk rfl ?_
  refine TT.sq rfl ?_
  refine TT.rg [0,1] [kp,kp] rfl rfl ?_
  refine DL.pu 21 (.int .i32 110) rfl (p_extract rfl rfl rfl) ?_
  refine DL.pu 6 (.int .i32 110) rfl (p_assign rfl rfl) ?_
  refine DL.nil ?_
  refine TT.sq rfl ?_
  refine TT.rg [0] [kp] rfl rfl ?_
  refine DL.mv 22 (.int .i32 110) rfl rfl rfl ?_
  refine DL.nil ?_
  refine TT.bk rfl ?_
  refine TT.sq rfl ?_
  refine TT.rg [0,1] [kp,kp] rfl rfl ?_
  refine DL.pu 37 (.bool false) rfl (show FPure _ _ _ (.bool ((110 : Int) == (99 : Int))) from p_eql rfl rfl rfl) ?_
  refine DL.pu 36 (.bool false) rfl (p_assign rfl rfl) ?_
  refine DL.nil ?_
  refine TT.cf rfl rfl rfl ?_
  refine TT.sq rfl ?_
  refine TT.rg [0,1] [kp,kp] rfl rfl ?_
  refine DL.pu 45 (.bool true) rfl (show FPure _ _ _ (.bool ((110 : Int) == (110 : Int))) from p_eql rfl rfl rfl) ?_
  refine DL.pu 44 (.bool true) rfl (p_assign rfl rfl) ?_
  refine DL.nil ?_
  refine TT.ct rfl rfl rfl ?_
  refine TT.rg [0,1,2,3,4,5,6] [kp,kp,kq,kq,kA,kx,kp] rfl rfl ?_
  refine DL.mv 46 (s17_v) rfl rfl rfl ?_
  refine DL.pu 47 (ptr b1 2) rfl (p_fieldAddr ty_f36_2 rfl rfl) ?_
  refine DL.qu 48 (.int .i64 a0.n) rfl (FImm.quiet (i_loadBoxO (I:=M7) (hx7 _ _ hm_2) rfl ty_a3 rfl rfl) (fun w hc => hE15.imm hc)) ?_
  obtain ⟨g183,h184⟩:=req_some h13
  obtain ⟨g185,h186⟩:=req_some h184
  obtain ⟨t187,e188,h189⟩:=nm_some h186
  refine DL.qu 49 (str t187) rfl (by rw [e188]; exact f_callR rfl rfl (args_val (vs:=[.int .i64 a0.n]) rfl) (fun w => enter63 _ w) (fun w hc => itoa_ok (Glob.mono hG (hx2.trans hx7)) _ g183 g185 w (hE15.ext hc))) ?_
  refine DL.newS (M:=M7) (s:=Sh.str) (zs:=([t187] : List (List UInt8))) (cells:=[str t187]) (n:=1) rfl (by decide) rfl (fun i x hx => by match i,hx with | 0,hx => cases hx; exact rfl | k + 1,hx => simp at hx) (i:=4) rfl (Wn.none rfl) rfl rfl rfl (f_buildS (n:=1) (vs:=[(0,str t187)]) elem46 rfl rfl (by kernel_rfl) rfl (args_val2 rfl)) ?_
  intro s191_v s191_c ho_s191
  obtain ⟨g192,h193⟩:=req_some h189
  refine DL.appendS (M:=M7) (s:=Sh.str) (fun s194_v s194_c => [(Value.ownBlock s191_v,.cells s191_c 9 (0,0)),(some b182,.stringIter ⟨#[110,97,98,100]⟩ 1),(Value.ownBlock s194_v,.cells s194_c 9 (0,0)),(some b14,.cells (#[str t8,str [110,97,98,100]]) 86 (0,0))]) elem46 (j:=2) rfl ho_s17 g192 (by decide) (OwnS.src (i:=0) ho_s191 rfl) (i:=5) rfl (Wn.none rfl) rfl rfl rfl rfl rfl rfl (fun _ _ => rfl) ?_
  intro s194_v s194_c ho_s194
  refine DL.pu 4 (s194_v) rfl (p_assign rfl rfl) ?_
  refine DL.nil ?_
  refine TT.inBlock ?_
  refine TT.inBlock ?_
  refine TT.inLoop ?_
  refine TT.sq rfl ?_
  refine TT.rg [0,1] [kx,kp] rfl rfl ?_
  refine DL.chr (j:=1) (c:=97) (wd:=1) rfl rfl rfl rfl rfl rfl (by decide) (by kernel_rfl) rfl rfl ?_
  refine DL.pu 20 (.bool true) rfl (p_extract rfl rfl rfl) ?_
  refine DL.nil ?_
  refine TT.sq rfl ?_
  refine TT.ct rfl rfl rfl ?_
  refine TT.skip ?_
  refine TT.bk rfl ?_
  refine TT.sq rfl ?_
  refine TT.rg [0,1] [kp,kp] rfl rfl ?_
  refine DL.pu 21 (.int .i32 97) rfl (p_extract rfl rfl rfl) ?_
  refine DL.pu 6 (.int .i32 97) rfl (p_assign rfl rfl) ?_
  refine DL.nil ?_
  refine TT.sq rfl ?_
  refine TT.rg [0] [kp] rfl rfl ?_
  refine DL.mv 22 (.int .i32 97) rfl rfl rfl ?_
  refine DL.nil ?_
  refine TT.bk rfl ?_
  refine TT.sq rfl ?_
  refine TT.rg [0,1] [kp,kp] rfl rfl ?_
  refine DL.pu 37 (.bool false) rfl (show FPure _ _ _ (.bool ((97 : Int) == (99 : Int))) from p_eql rfl rfl rfl) ?_
  refine DL.pu 36 (.bool false) rfl (p_assign rfl rfl) ?_
  refine DL.nil ?_
  refine TT.cf rfl rfl rfl ?_
  refine TT.sq rfl ?_
  refine TT.rg [0,1] [kp,kp] rfl rfl ?_
  refine DL.pu 45 (.bool false) rfl (show FPure _ _ _ (.bool ((97 : Int) == (110 : Int))) from p_eql rfl rfl rfl) ?_
  refine DL.pu 44 (.bool false) rfl (p_assign rfl rfl) ?_
  refine DL.nil ?_
  refine TT.cf rfl rfl rfl ?_
  refine TT.sq rfl ?_
  refine TT.rg [0,1] [kp,kp] rfl rfl ?_
  refine DL.pu 53 (.bool true) rfl (show FPure _ _ _ (.bool ((97 : Int) == (97 : Int))) from p_eql rfl rfl rfl) ?_
  refine DL.pu 52 (.bool true) rfl (p_assign rfl rfl) ?_
  refine DL.nil ?_
  refine TT.ct rfl rfl rfl ?_
  refine TT.rg [0,1,2,3,4,5,6] [kp,kp,kq,kq,kA,kx,kp] rfl rfl ?_
  refine DL.mv 54 (s194_v) rfl rfl rfl ?_
  refine DL.pu 55 (ptr b1 3) rfl (p_fieldAddr ty_f36_3 rfl rfl) ?_
  refine DL.qu 56 (.int .i64 a0.at_) rfl (FImm.quiet (i_loadBoxO (I:=M7) (hx7 _ _ hm_2) rfl ty_a3 rfl rfl) (fun w hc => hE15.imm hc)) ?_
  obtain ⟨g195,h196⟩:=req_some h193
  obtain ⟨g197,h198⟩:=req_some h196
  obtain ⟨t199,e200,h201⟩:=nm_some h198
  refine DL.qu 57 (str t199) rfl (by rw [e200]; exact f_callR rfl rfl (args_val (vs:=[.int .i64 a0.at_]) rfl) (fun w => enter63 _ w) (fun w hc => itoa_ok (Glob.mono hG (hx2.trans hx7)) _ g195 g197 w (hE15.ext hc))) ?_
  refine DL.newS (M:=M7) (s:=Sh.str) (zs:=([t199] : List (List UInt8))) (cells:=[str t199]) (n:=1) rfl (by decide) rfl (fun i x hx => by match i,hx with | 0,hx => cases hx; exact rfl | k + 1,hx => simp at hx) (i:=4) rfl (Wn.none rfl) rfl rfl rfl (f_buildS (n:=1) (vs:=[(0,str t199)]) elem46 rfl rfl (by kernel_rfl) rfl (args_val2 rfl)) ?_
  intro s203_v s203_c ho_s203
  obtain ⟨g204,h205⟩:=req_some h201
  refine DL.appendS (M:=M7) (s:=Sh.str) (fun s206_v s206_c => [(Value.ownBlock s203_v,.cells s203_c 9 (0,0)),(Value.ownBlock s191_v,.cells s191_c 9 (0,0)),(some b182,.stringIter ⟨#[110,97,98,100]⟩ 2),(Value.ownBlock s206_v,.cells s206_c 9 (0,0)),(some b14,.cells (#[str t8,str [110,97,98,100]]) 86 (0,0))]) elem46 (j:=3) rfl ho_s194 g204 (by decide) (OwnS.src (i:=0) ho_s203 rfl) (i:=5) rfl (Wn.none rfl) rfl rfl rfl rfl rfl rfl (fun _ _ => rfl) ?_
  intro s206_v s206_c ho_s206
  refine DL.pu 4 (s206_v) rfl (p_assign rfl rfl) ?_
  refine DL.nil ?_
  refine TT.inBlock ?_
  refine TT.inBlock ?_
  refine TT.inLoop ?_
  refine TT.sq rfl ?_
  refine TT.rg [0,1] [kx,kp] rfl rfl ?_
  refine DL.chr (j:=2) (c:=98) (wd:=1) rfl rfl rfl rfl rfl rfl (by decide) (by kernel_rfl) rfl rfl ?_
  refine DL.pu 20 (.bool true) rfl (p_extract rfl rfl rfl) ?_
  refine DL.nil ?_
  refine TT.sq rfl ?_
  refine TT.ct rfl rfl rfl ?_
  refine TT.skip ?_
  refine TT.bk rfl ?_
  refine TT.sq rfl ?_
  refine TT.rg [0,1] [kp,kp] rfl rfl ?_
  refine DL.pu 21 (.int .i32 98) rfl (p_extract rfl rfl rfl) ?_
  refine DL.pu 6 (.int .i32 98) rfl (p_assign rfl rfl) ?_
  refine DL.nil ?_
  refine TT.sq rfl ?_
  refine TT.rg [0] [kp] rfl rfl ?_
  refine DL.mv 22 (.int .i32 98) rfl rfl rfl ?_
  refine DL.nil ?_
  refine TT.bk rfl ?_
  refine TT.sq rfl ?_
  refine TT.rg [0,1] [kp,kp] rfl rfl ?_
  refine DL.pu 37 (.bool false) rfl (show FPure _ _ _ (.bool ((98 : Int) == (99 : Int))) from p_eql rfl rfl rfl) ?_
  refine DL.pu 36 (.bool false) rfl (p_assign rfl rfl) ?_
  refine DL.nil ?_
  refine TT.cf rfl rfl rfl ?_
  refine TT.sq rfl ?_
  refine TT.rg [0,1] [kp,kp] rfl rfl ?_
  refine DL.pu 45 (.bool false) rfl (show FPure _ _ _ (.bool ((98 : Int) == (110 : Int))) from p_eql rfl rfl rfl) ?_
  refine DL.pu 44 (.bool false) rfl (p_assign rfl rfl) ?_
  refine DL.nil ?_
  refine TT.cf rfl rfl rfl ?_
  refine TT.sq rfl ?_
  refine TT.rg [0,1] [kp,kp] rfl rfl ?_
  refine DL.pu 53 (.bool false) rfl (show FPure _ _ _ (.bool ((98 : Int) == (97 : Int))) from p_eql rfl rfl rfl) ?_
  refine DL.pu 52 (.bool false) rfl (p_assign rfl rfl) ?_
  refine DL.nil ?_
  refine TT.cf rfl rfl rfl ?_
  refine TT.sq rfl ?_
  refine TT.rg [0,1] [kp,kp] rfl rfl ?_
  refine DL.pu 61 (.bool true) rfl (show FPure _ _ _ (.bool ((98 : Int) == (98 : Int))) from p_eql rfl rfl rfl) ?_
  refine DL.pu 60 (.bool true) rfl (p_assign rfl rfl) ?_
  refine DL.nil ?_
  refine TT.ct rfl rfl rfl ?_
  refine TT.rg [0,1,2,3,4,5,6,7] [kp,kp,kq,kp,kq,kA,kx,kp] rfl rfl ?_
  refine DL.mv 62 (s206_v) rfl rfl rfl ?_
  refine DL.pu 63 (ptr b1 4) rfl (p_fieldAddr ty_f36_4 rfl rfl) ?_
  refine DL.qu 64 (.int .u8 a0.byt) rfl (FImm.quiet (i_loadBoxO (I:=M7) (hx7 _ _ hm_2) rfl ty_a5 rfl rfl) (fun w hc => hE15.imm hc)) ?_
  refine DL.pu 65 (.int .i64 (IntKind.i64.wrap a0.byt)) rfl (p_conv ty_u5 ty_u3 ⟨_,rfl⟩ rfl rfl) ?_
  obtain ⟨g207,h208⟩:=req_some h205
  obtain ⟨g209,h210⟩:=req_some h208
  obtain ⟨t211,e212,h213⟩:=nm_some h210
  refine DL.qu 66 (str t211) rfl (by rw [e212]; exact f_callR rfl rfl (args_val (vs:=[.int .i64 (IntKind.i64.wrap a0.byt)]) rfl) (fun w => enter63 _ w) (fun w hc => itoa_ok (Glob.mono hG (hx2.trans hx7)) _ g207 g209 w (hE15.ext hc))) ?_
  refine DL.newS (M:=M7) (s:=Sh.str) (zs:=([t211] : List (List UInt8))) (cells:=[str t211]) (n:=1) rfl (by decide) rfl (fun i x hx => by match i,hx with | 0,hx => cases hx; exact rfl | k + 1,hx => simp at hx) (i:=5) rfl (Wn.none rfl) rfl rfl rfl (f_buildS (n:=1) (vs:=[(0,str t211)]) elem46 rfl rfl (by kernel_rfl) rfl (args_val2 rfl)) ?_
  intro s215_v s215_c ho_s215
  obtain ⟨g216,h217⟩:=req_some h213
  refine DL.appendS (M:=M7) (s:=Sh.str) (fun s218_v s218_c => [(Value.ownBlock s215_v,.cells s215_c 9 (0,0)),(Value.ownBlock s203_v,.cells s203_c 9 (0,0)),(Value.ownBlock s191_v,.cells s191_c 9 (0,0)),(some b182,.stringIter ⟨#[110,97,98,100]⟩ 3),(Value.ownBlock s218_v,.cells s218_c 9 (0,0)),(some b14,.cells (#[str t8,str [110,97,98,100]]) 86 (0,0))]) elem46 (j:=4) rfl ho_s206 g216 (by decide) (OwnS.src (i:=0) ho_s215 rfl) (i:=6) rfl (Wn.none rfl) rfl rfl rfl rfl rfl rfl (fun _ _ => rfl) ?_
  intro s218_v s218_c ho_s218
  refine DL.pu 4 (s218_v) rfl (p_assign rfl rfl) ?_
  refine DL.nil ?_
  refine TT.inBlock ?_
  refine TT.inBlock ?_
  refine TT.inLoop ?_
  refine TT.sq rfl ?_
  refine TT.rg [0,1] [kx,kp] rfl rfl ?_
  refine DL.chr (j:=3) (c:=100) (wd:=1) rfl rfl rfl rfl rfl rfl (by decide) (by kernel_rfl) rfl rfl ?_
  refine DL.pu 20 (.bool true) rfl (p_extract rfl rfl rfl) ?_
  refine DL.nil ?_
  refine TT.sq rfl ?_
  refine TT.ct rfl rfl rfl ?_
  refine TT.skip ?_
  refine TT.bk rfl ?_
  refine TT.sq rfl ?_
  refine TT.rg [0,1] [kp,kp] rfl rfl ?_
  refine DL.pu 21 (.int .i32 100) rfl (p_extract rfl rfl rfl) ?_
  refine DL.pu 6 (.int .i32 100) rfl (p_assign rfl rfl) ?_
  refine DL.nil ?_
  refine TT.sq rfl ?_
  refine TT.rg [0] [kp] rfl rfl ?_
  refine DL.mv 22 (.int .i32 100) rfl rfl rfl ?_
  refine DL.nil ?_
  refine TT.bk rfl ?_
  refine TT.sq rfl ?_
  refine TT.rg [0,1] [kp,kp] rfl rfl ?_
  refine DL.pu 37 (.bool false) rfl (show FPure _ _ _ (.bool ((100 : Int) == (99 : Int))) from p_eql rfl rfl rfl) ?_
  refine DL.pu 36 (.bool false) rfl (p_assign rfl rfl) ?_
  refine DL.nil ?_
  refine TT.cf rfl rfl rfl ?_
  refine TT.sq rfl ?_
  refine TT.rg [0,1] [kp,kp] rfl rfl ?_
  refine DL.pu 45 (.bool false) rfl (show FPure _ _ _ (.bool ((100 : Int) == (110 : Int))) from p_eql rfl rfl rfl) ?_
  refine DL.pu 44 (.bool false) rfl (p_assign rfl rfl) ?_
  refine DL.nil ?_
  refine TT.cf rfl rfl rfl ?_
  refine TT.sq rfl ?_
  refine TT.rg [0,1] [kp,kp] rfl rfl ?_
  refine DL.pu 53 (.bool false) rfl (show FPure _ _ _ (.bool ((100 : Int) == (97 : Int))) from p_eql rfl rfl rfl) ?_
  refine DL.pu 52 (.bool false) rfl (p_assign rfl rfl) ?_
  refine DL.nil ?_
  refine TT.cf rfl rfl rfl ?_
  refine TT.sq rfl ?_
  refine TT.rg [0,1] [kp,kp] rfl rfl ?_
  refine DL.pu 61 (.bool false) rfl (show FPure _ _ _ (.bool ((100 : Int) == (98 : Int))) from p_eql rfl rfl rfl) ?_
  refine DL.pu 60 (.bool false) rfl (p_assign rfl rfl) ?_
  refine DL.nil ?_
  refine TT.cf rfl rfl rfl ?_
  refine TT.sq rfl ?_
  refine TT.rg [0,1] [kp,kp] rfl rfl ?_
  refine DL.pu 70 (.bool false) rfl (show FPure _ _ _ (.bool ((100 : Int) == (116 : Int))) from p_eql rfl rfl rfl) ?_
  refine DL.pu 69 (.bool false) rfl (p_assign rfl rfl) ?_
  refine DL.nil ?_
  refine TT.cf rfl rfl rfl ?_
  refine TT.sq rfl ?_
  refine TT.rg [0,1] [kp,kp] rfl rfl ?_
  refine DL.pu 78 (.bool false) rfl (show FPure _ _ _ (.bool ((100 : Int) == (102 : Int))) from p_eql rfl rfl rfl) ?_
  refine DL.pu 77 (.bool false) rfl (p_assign rfl rfl) ?_
  refine DL.nil ?_
  refine TT.cf rfl rfl rfl ?_
  refine TT.sq rfl ?_
  refine TT.rg [0,1] [kp,kp] rfl rfl ?_
  refine DL.pu 86 (.bool true) rfl (show FPure _ _ _ (.bool ((100 : Int) == (100 : Int))) from p_eql rfl rfl rfl) ?_
  refine DL.pu 85 (.bool true) rfl (p_assign rfl rfl) ?_
  refine DL.nil ?_
  refine TT.ct rfl rfl rfl ?_
  refine TT.rg [0,1,2,3,4,5,6] [kp,kp,kp,kq,kA,kx,kp] rfl rfl ?_
  refine DL.mv 87 (s218_v) rfl rfl rfl ?_
  refine DL.pu 88 (ptr b1 38) rfl (p_fieldAddr ty_f36_7 rfl rfl) ?_
  obtain ⟨v219,v219_e⟩ : ∃ u,u = Value.slice (some ⟨b1,38,none⟩) 32 32:=⟨_,rfl⟩
  have hr_v219 : IntRow M7 .u8 v219 (pad32 a0.draw):=by rw [v219_e]; exact row_of_box (hx7 _ _ hm_2) rfl rfl
  refine DL.pu 89 (v219) rfl (by rw [v219_e]; exact p_sliceBox (fun w => by kernel_rfl) rfl rfl) ?_
  obtain ⟨t220,h221,h222⟩:=bind_some h217
  refine DL.qu 90 (str t220) rfl (f_callR rfl rfl (args_val (vs:=[v219]) rfl) (fun w => enter86 _ w) (fun w hc => wire_Hex.val h221 (M:=M7) w (hE15.ext hc) hr_v219)) ?_
  refine DL.newS (M:=M7) (s:=Sh.str) (zs:=([t220] : List (List UInt8))) (cells:=[str t220]) (n:=1) rfl (by decide) rfl (fun i x hx => by match i,hx with | 0,hx => cases hx; exact rfl | k + 1,hx => simp at hx) (i:=4) rfl (Wn.none rfl) rfl rfl rfl (f_buildS (n:=1) (vs:=[(0,str t220)]) elem46 rfl rfl (by kernel_rfl) rfl (args_val2 rfl)) ?_
  intro s224_v s224_c ho_s224
  obtain ⟨g225,h226⟩:=req_some h222
  refine DL.appendS (M:=M7) (s:=Sh.str) (fun s227_v s227_c => [(Value.ownBlock s224_v,.cells s224_c 9 (0,0)),(Value.ownBlock s215_v,.cells s215_c 9 (0,0)),(Value.ownBlock s203_v,.cells s203_c 9 (0,0)),(Value.ownBlock s191_v,.cells s191_c 9 (0,0)),(some b182,.stringIter ⟨#[110,97,98,100]⟩ 4),(Value.ownBlock s227_v,.cells s227_c 9 (0,0)),(some b14,.cells (#[str t8,str [110,97,98,100]]) 86 (0,0))]) elem46 (j:=5) rfl ho_s218 g225 (by decide) (OwnS.src (i:=0) ho_s224 rfl) (i:=5) rfl (Wn.none rfl) rfl rfl rfl rfl rfl rfl (fun _ _ => rfl) ?_
  intro s227_v s227_c ho_s227
  refine DL.pu 4 (s227_v) rfl (p_assign rfl rfl) ?_
  refine DL.nil ?_
  refine TT.inBlock ?_
  refine TT.inBlock ?_
  refine TT.inLoop ?_
  refine TT.sq rfl ?_
  refine TT.rg [0,1] [kx,kp] rfl rfl ?_
  refine DL.chrE (j:=4) rfl rfl rfl rfl rfl rfl (by decide) rfl rfl ?_
  refine DL.pu 20 (.bool false) rfl (p_extract rfl rfl rfl) ?_
  refine DL.nil ?_
  refine TT.sq rfl ?_
  refine TT.cf rfl rfl rfl ?_
  refine TT.exit rfl ?_
  refine TT.sq rfl ?_
  refine TT.rg [0,1,2] [kp,kq,kp] rfl rfl ?_
  refine DL.mv 109 (s227_v) rfl rfl rfl ?_
  obtain ⟨g228,h229⟩:=req_some h226
  obtain ⟨g230,h231⟩:=req_some h229
  obtain ⟨t232,e233,h234⟩:=nm_some h231
  refine DL.qu 110 (str t232) rfl (by rw [e233]; exact f_callR rfl rfl (args_val (vs:=[s227_v,str [32]]) rfl) (fun w => enter69 _ w) (fun w hc => join_ok (i:=5) _ ho_s227 hc rfl g228 g230)) ?_
  refine DL.pu 2 (str t232) rfl (p_assign rfl rfl) ?_
  refine DL.nil ?_
  obtain rfl:=Option.some.inj h234
  exact retnE (rs:=[.tmp 2]) (vs:=[str t232]) hE15.base Tryz.func37 rfl rfl rfl (res_cons (ResV.tmp rfl) res_nil) rfl
 replace h13:=(if_neg (by simpa using hs18_6)).symm.trans h13
 by_cases hs18_7 : t11 = [116]
 ·
  subst hs18_7
  replace h13:=(if_pos (by decide)).symm.trans h13
  refine DL.keep (X:=Nat) (u:=fun b => ptr b 0) (H':=fun b => (some b,.stringIter ⟨#[116]⟩ 0) :: [(Value.ownBlock s17_v,.cells s17_c 9 (0,0)),(some b14,.cells (#[str t8,str [116]]) 86 (0,0))]) (fun _ p hp => List.mem_cons_of_mem _ hp) (i:=2) rfl (Wn.none rfl) rfl rfl rfl (f_rangeText (s:=⟨#[116]⟩) (by kernel_rfl : Tryz.prog.underlying 9 = some .string) rfl rfl) ?_
  intro b235
  refine DL.nil ?_
  refine TT.bk rfl ?_
  refine TT.lp rfl ?_
  refine TT.sq rfl ?_
  refine TT.rg [0,1] [kx,kp] rfl rfl ?_
  refine DL.chr (j:=0) (c:=116) (wd:=1) rfl rfl rfl rfl rfl rfl (by decide) (by kernel_rfl) rfl rfl ?_
  refine DL.pu 20 (.bool true) rfl (p_extract rfl rfl rfl) ?_
  refine DL.nil ?_
  refine TT.sq rfl ?_
  refine TT.ct rfl rfl rfl ?_
  refine TT.skip ?_
  refine TT.bk rfl ?_
  refine TT.sq rfl ?_
  refine TT.rg [0,1] [kp,kp] rfl rfl ?_
  refine DL.pu 21 (.int .i32 116) rfl (p_extract rfl rfl rfl) ?_
  refine DL.pu 6 (.int .i32 116) rfl (p_assign rfl rfl) ?_
  refine DL.nil ?_
  refine TT.sq rfl ?_
  refine TT.rg [0] [kp] rfl rfl ?_
  refine DL.mv 22 (.int .i32 116) rfl rfl rfl ?_
  refine DL.nil ?_
  refine TT.bk rfl ?_
  refine TT.sq rfl ?_
  refine TT.rg [0,1] [kp,kp] rfl rfl ?_
  refine DL.pu 37 (.bool false) rfl (show FPure _ _ _ (.bool ((116 : Int) == (99 : Int))) from p_eql rfl rfl rfl) ?_
  refine DL.pu 36 (.bool false) rfl (p_assign rfl rfl) ?_
  refine DL.nil ?_
  refine TT.cf rfl rfl rfl ?_
  refine TT.sq rfl ?_
  refine TT.rg [0,1] [kp,kp] rfl rfl ?_
  refine DL.pu 45 (.bool false) rfl (show FPure _ _ _ (.bool ((116 : Int) == (110 : Int))) from p_eql rfl rfl rfl) ?_
  refine DL.pu 44 (.bool false) rfl (p_assign rfl rfl) ?_
  refine DL.nil ?_
  refine TT.cf rfl rfl rfl ?_
  refine TT.sq rfl ?_
  refine TT.rg [0,1] [kp,kp] rfl rfl ?_
  refine DL.pu 53 (.bool false) rfl (show FPure _ _ _ (.bool ((116 : Int) == (97 : Int))) from p_eql rfl rfl rfl) ?_
  refine DL.pu 52 (.bool false) rfl (p_assign rfl rfl) ?_
  refine DL.nil ?_
  refine TT.cf rfl rfl rfl ?_
  refine TT.sq rfl ?_
  refine TT.rg [0,1] [kp,kp] rfl rfl ?_
  refine DL.pu 61 (.bool false) rfl (show FPure _ _ _ (.bool ((116 : Int) == (98 : Int))) from p_eql rfl rfl rfl) ?_
  refine DL.pu 60 (.bool false) rfl (p_assign rfl rfl) ?_
  refine DL.nil ?_
  refine TT.cf rfl rfl rfl ?_
  refine TT.sq rfl ?_
  refine TT.rg [0,1] [kp,kp] rfl rfl ?_
  refine DL.pu 70 (.bool true) rfl (show FPure _ _ _ (.bool ((116 : Int) == (116 : Int))) from p_eql rfl rfl rfl) ?_
  refine DL.pu 69 (.bool true) rfl (p_assign rfl rfl) ?_
  refine DL.nil ?_
  refine TT.ct rfl rfl rfl ?_
  refine TT.rg [0,1,2,3,4,5,6] [kp,kp,kq,kq,kA,kx,kp] rfl rfl ?_
  refine DL.mv 71 (s17_v) rfl rfl rfl ?_
  refine DL.pu 72 (ptr b1 5) rfl (p_fieldAddr ty_f36_5 rfl rfl) ?_
  refine DL.qu 73 (.int .u64 a0.tick) rfl (FImm.quiet (i_loadBoxO (I:=M7) (hx7 _ _ hm_2) rfl ty_a24 rfl rfl) (fun w hc => hE15.imm hc)) ?_
  obtain ⟨g236,h237⟩:=req_some h13
  obtain ⟨g238,h239⟩:=req_some h237
  obtain ⟨t240,e241,h242⟩:=nm_some h239
  refine DL.qu 74 (str t240) rfl (by rw [e241]; exact f_callR rfl rfl (args_val (vs:=[.int .u64 a0.tick,.int .i64 10]) rfl) (fun w => enter67 _ w) (fun w hc => futoa_ok (Glob.mono hG (hx2.trans hx7)) _ g236 g238 w (hE15.ext hc))) ?_
  refine DL.newS (M:=M7) (s:=Sh.str) (zs:=([t240] : List (List UInt8))) (cells:=[str t240]) (n:=1) rfl (by decide) rfl (fun i x hx => by match i,hx with | 0,hx => cases hx; exact rfl | k + 1,hx => simp at hx) (i:=4) rfl (Wn.none rfl) rfl rfl rfl (f_buildS (n:=1) (vs:=[(0,str t240)]) elem46 rfl rfl (by kernel_rfl) rfl (args_val2 rfl)) ?_
  intro s244_v s244_c ho_s244
  obtain ⟨g245,h246⟩:=req_some h242
  refine DL.appendS (M:=M7) (s:=Sh.str) (fun s247_v s247_c => [(Value.ownBlock s244_v,.cells s244_c 9 (0,0)),(some b235,.stringIter ⟨#[116]⟩ 1),(Value.ownBlock s247_v,.cells s247_c 9 (0,0)),(some b14,.cells (#[str t8,str [116]]) 86 (0,0))]) elem46 (j:=2) rfl ho_s17 g245 (by decide) (OwnS.src (i:=0) ho_s244 rfl) (i:=5) rfl (Wn.none rfl) rfl rfl rfl rfl rfl rfl (fun _ _ => rfl) ?_
  intro s247_v s247_c ho_s247
  refine DL.pu 4 (s247_v) rfl (p_assign rfl rfl) ?_
  refine DL.nil ?_
  refine TT.inBlock ?_
  refine TT.inBlock ?_
  refine TT.inLoop ?_
  refine TT.sq rfl ?_
  refine TT.rg [0,1] [kx,kp] rfl rfl ?_
  refine DL.chrE (j:=1) rfl rfl rfl rfl rfl rfl (by decide) rfl rfl ?_
  refine DL.pu 20 (.bool false) rfl (p_extract rfl rfl rfl) ?_
  refine DL.nil ?_
  refine TT.sq rfl ?_
  refine TT.cf rfl rfl rfl ?_
  refine TT.exit rfl ?_
  refine TT.sq rfl ?_
  refine TT.rg [0,1,2] [kp,kq,kp] rfl rfl ?_
  refine DL.mv 109 (s247_v) rfl rfl rfl ?_
  obtain ⟨g248,h249⟩:=req_some h246
  obtain ⟨g250,h251⟩:=req_some h249
  obtain ⟨t252,e253,h254⟩:=nm_some h251
  refine DL.qu 110 (str t252) rfl (by rw [e253]; exact f_callR rfl rfl (args_val (vs:=[s247_v,str [32]]) rfl) (fun w => enter69 _ w) (fun w hc => join_ok (i:=2) _ ho_s247 hc rfl g248 g250)) ?_
  refine DL.pu 2 (str t252) rfl (p_assign rfl rfl) ?_
  refine DL.nil ?_
  obtain rfl:=Option.some.inj h254
  exact retnE (rs:=[.tmp 2]) (vs:=[str t252]) hE15.base Tryz.func37 rfl rfl rfl (res_cons (ResV.tmp rfl) res_nil) rfl
 replace h13:=(if_neg (by simpa using hs18_7)).symm.trans h13
 by_cases hs18_8 : t11 = [110]
 ·
  subst hs18_8
  replace h13:=(if_pos (by decide)).symm.trans h13
  refine DL.keep (X:=Nat) (u:=fun b => ptr b 0) (H':=fun b => (some b,.stringIter ⟨#[110]⟩ 0) :: [(Value.ownBlock s17_v,.cells s17_c 9 (0,0)),(some b14,.cells (#[str t8,str [110]]) 86 (0,0))]) (fun _ p hp => List.mem_cons_of_mem _ hp) (i:=2) rfl (Wn.none rfl) rfl rfl rfl (f_rangeText (s:=⟨#[110]⟩) (by kernel_rfl : Tryz.prog.underlying 9 = some .string) rfl rfl) ?_
  intro b255
  refine DL.nil ?_
  refine TT.bk rfl ?_
  refine TT.lp rfl ?_
  refine TT.sq rfl ?_
  refine TT.rg [0,1] [kx,kp] rfl rfl ?_
  refine DL.chr (j:=0) (c:=110) (wd:=1) rfl rfl rfl rfl rfl rfl (by decide) (by kernel_rfl) rfl rfl ?_
  refine DL.pu 20 (.bool true) rfl (p_extract rfl rfl rfl) ?_
  refine DL.nil ?_
  refine TT.sq rfl ?_
  refine TT.ct rfl rfl rfl ?_
  refine TT.skip ?_
  refine TT.bk rfl ?_
  refine TT.sq rfl ?_
  refine TT.rg [0,1] [kp,kp] rfl rfl ?_
  refine DL.pu 21 (.int .i32 110) rfl (p_extract rfl rfl rfl) ?_
  refine DL.pu 6 (.int .i32 110) rfl (p_assign rfl rfl) ?_
  refine DL.nil ?_
  refine TT.sq rfl ?_
  refine TT.rg [0] [kp] rfl rfl ?_
  refine DL.mv 22 (.int .i32 110) rfl rfl rfl ?_
  refine DL.nil ?_
  refine TT.bk rfl ?_
  refine TT.sq rfl ?_
  refine TT.rg [0,1] [kp,kp] rfl rfl ?_
  refine DL.pu 37 (.bool false) rfl (show FPure _ _ _ (.bool ((110 : Int) == (99 : Int))) from p_eql rfl rfl rfl) ?_
  refine DL.pu 36 (.bool false) rfl (p_assign rfl rfl) ?_
  refine DL.nil ?_
  refine TT.cf rfl rfl rfl ?_
  refine TT.sq rfl ?_
  refine TT.rg [0,1] [kp,kp] rfl rfl ?_
  refine DL.pu 45 (.bool true) rfl (show FPure _ _ _ (.bool ((110 : Int) == (110 : Int))) from p_eql rfl rfl rfl) ?_
  refine DL.pu 44 (.bool true) rfl (p_assign rfl rfl) ?_
  refine DL.nil ?_
  refine TT.ct rfl rfl rfl ?_
  refine TT.rg [0,1,2,3,4,5,6] [kp,kp,kq,kq,kA,kx,kp] rfl rfl ?_
  refine DL.mv 46 (s17_v) rfl rfl rfl ?_
  refine DL.pu 47 (ptr b1 2) rfl (p_fieldAddr ty_f36_2 rfl rfl) ?_
  refine DL.qu 48 (.int .i64 a0.n) rfl (FImm.quiet (i_loadBoxO (I:=M7) (hx7 _ _ hm_2) rfl ty_a3 rfl rfl) (fun w hc => hE15.imm hc)) ?_
  obtain ⟨g256,h257⟩:=req_some h13
  obtain ⟨g258,h259⟩:=req_some h257
  obtain ⟨t260,e261,h262⟩:=nm_some h259
  refine DL.qu 49 (str t260) rfl (by rw [e261]; exact f_callR rfl rfl (args_val (vs:=[.int .i64 a0.n]) rfl) (fun w => enter63 _ w) (fun w hc => itoa_ok (Glob.mono hG (hx2.trans hx7)) _ g256 g258 w (hE15.ext hc))) ?_
  refine DL.newS (M:=M7) (s:=Sh.str) (zs:=([t260] : List (List UInt8))) (cells:=[str t260]) (n:=1) rfl (by decide) rfl (fun i x hx => by match i,hx with | 0,hx => cases hx; exact rfl | k + 1,hx => simp at hx) (i:=4) rfl (Wn.none rfl) rfl rfl rfl (f_buildS (n:=1) (vs:=[(0,str t260)]) elem46 rfl rfl (by kernel_rfl) rfl (args_val2 rfl)) ?_
  intro s264_v s264_c ho_s264
  obtain ⟨g265,h266⟩:=req_some h262
  refine DL.appendS (M:=M7) (s:=Sh.str) (fun s267_v s267_c => [(Value.ownBlock s264_v,.cells s264_c 9 (0,0)),(some b255,.stringIter ⟨#[110]⟩ 1),(Value.ownBlock s267_v,.cells s267_c 9 (0,0)),(some b14,.cells (#[str t8,str [110]]) 86 (0,0))]) elem46 (j:=2) rfl ho_s17 g265 (by decide) (OwnS.src (i:=0) ho_s264 rfl) (i:=5) rfl (Wn.none rfl) rfl rfl rfl rfl rfl rfl (fun _ _ => rfl) ?_
  intro s267_v s267_c ho_s267
  refine DL.pu 4 (s267_v) rfl (p_assign rfl rfl) ?_
  refine DL.nil ?_
  refine TT.inBlock ?_
  refine TT.inBlock ?_
  refine TT.inLoop ?_
  refine TT.sq rfl ?_
  refine TT.rg [0,1] [kx,kp] rfl rfl ?_
  refine DL.chrE (j:=1) rfl rfl rfl rfl rfl rfl (by decide) rfl rfl ?_
  refine DL.pu 20 (.bool false) rfl (p_extract rfl rfl rfl) ?_
  refine DL.nil ?_
  refine TT.sq rfl ?_
  refine TT.cf rfl rfl rfl ?_
  refine TT.exit rfl ?_
  refine TT.sq rfl ?_
  refine TT.rg [0,1,2] [kp,kq,kp] rfl rfl ?_
  refine DL.mv 109 (s267_v) rfl rfl rfl ?_
  obtain ⟨g268,h269⟩:=req_some h266
  obtain ⟨g270,h271⟩:=req_some h269
  obtain ⟨t272,e273,h274⟩:=nm_some h271
  refine DL.qu 110 (str t272) rfl (by rw [e273]; exact f_callR rfl rfl (args_val (vs:=[s267_v,str [32]]) rfl) (fun w => enter69 _ w) (fun w hc => join_ok (i:=2) _ ho_s267 hc rfl g268 g270)) ?_
  refine DL.pu 2 (str t272) rfl (p_assign rfl rfl) ?_
  refine DL.nil ?_
  obtain rfl:=Option.some.inj h274
  exact retnE (rs:=[.tmp 2]) (vs:=[str t272]) hE15.base Tryz.func37 rfl rfl rfl (res_cons (ResV.tmp rfl) res_nil) rfl
 replace h13:=(if_neg (by simpa using hs18_8)).symm.trans h13
 by_cases hs18_9 : t11 = [112]
 ·
  subst hs18_9
  replace h13:=(if_pos (by decide)).symm.trans h13
  refine DL.keep (X:=Nat) (u:=fun b => ptr b 0) (H':=fun b => (some b,.stringIter ⟨#[112]⟩ 0) :: [(Value.ownBlock s17_v,.cells s17_c 9 (0,0)),(some b14,.cells (#[str t8,str [112]]) 86 (0,0))]) (fun _ p hp => List.mem_cons_of_mem _ hp) (i:=2) rfl (Wn.none rfl) rfl rfl rfl (f_rangeText (s:=⟨#[112]⟩) (by kernel_rfl : Tryz.prog.underlying 9 = some .string) rfl rfl) ?_
  intro b275
  refine DL.nil ?_
  refine TT.bk rfl ?_
  refine TT.lp rfl ?_
  refine TT.sq rfl ?_
  refine TT.rg [0,1] [kx,kp] rfl rfl ?_
  refine DL.chr (j:=0) (c:=112) (wd:=1) rfl rfl rfl rfl rfl rfl (by decide) (by kernel_rfl) rfl rfl ?_
  refine DL.pu 20 (.bool true) rfl (p_extract rfl rfl rfl) ?_
  refine DL.nil ?_
  refine TT.sq rfl ?_
  refine TT.ct rfl rfl rfl ?_
  refine TT.skip ?_
  refine TT.bk rfl ?_
  refine TT.sq rfl ?_
  refine TT.rg [0,1] [kp,kp] rfl rfl ?_
  refine DL.pu 21 (.int .i32 112) rfl (p_extract rfl rfl rfl) ?_
  refine DL.pu 6 (.int .i32 112) rfl (p_assign rfl rfl) ?_
  refine DL.nil ?_
  refine TT.sq rfl ?_
  refine TT.rg [0] [kp] rfl rfl ?_
  refine DL.mv 22 (.int .i32 112) rfl rfl rfl ?_
  refine DL.nil ?_
  refine TT.bk rfl ?_
  refine TT.sq rfl ?_
  refine TT.rg [0,1] [kp,kp] rfl rfl ?_
  refine DL.pu 37 (.bool false) rfl (show FPure _ _ _ (.bool ((112 : Int) == (99 : Int))) from p_eql rfl rfl rfl) ?_
  refine DL.pu 36 (.bool false) rfl (p_assign rfl rfl) ?_
  refine DL.nil ?_
  refine TT.cf rfl rfl rfl ?_
  refine TT.sq rfl ?_
  refine TT.rg [0,1] [kp,kp] rfl rfl ?_
  refine DL.pu 45 (.bool false) rfl (show FPure _ _ _ (.bool ((112 : Int) == (110 : Int))) from p_eql rfl rfl rfl) ?_
  refine DL.pu 44 (.bool false) rfl (p_assign rfl rfl) ?_
  refine DL.nil ?_
  refine TT.cf rfl rfl rfl ?_
  refine TT.sq rfl ?_
  refine TT.rg [0,1] [kp,kp] rfl rfl ?_
  refine DL.pu 53 (.bool false) rfl (show FPure _ _ _ (.bool ((112 : Int) == (97 : Int))) from p_eql rfl rfl rfl) ?_
  refine DL.pu 52 (.bool false) rfl (p_assign rfl rfl) ?_
  refine DL.nil ?_
  refine TT.cf rfl rfl rfl ?_
  refine TT.sq rfl ?_
  refine TT.rg [0,1] [kp,kp] rfl rfl ?_
  refine DL.pu 61 (.bool false) rfl (show FPure _ _ _ (.bool ((112 : Int) == (98 : Int))) from p_eql rfl rfl rfl) ?_
  refine DL.pu 60 (.bool false) rfl (p_assign rfl rfl) ?_
  refine DL.nil ?_
  refine TT.cf rfl rfl rfl ?_
  refine TT.sq rfl ?_
  refine TT.rg [0,1] [kp,kp] rfl rfl ?_
  refine DL.pu 70 (.bool false) rfl (show FPure _ _ _ (.bool ((112 : Int) == (116 : Int))) from p_eql rfl rfl rfl) ?_
  refine DL.pu 69 (.bool false) rfl (p_assign rfl rfl) ?_
  refine DL.nil ?_
  refine TT.cf rfl rfl rfl ?_
  refine TT.sq rfl ?_
  refine TT.rg [0,1] [kp,kp] rfl rfl ?_
  refine DL.pu 78 (.bool false) rfl (show FPure _ _ _ (.bool ((112 : Int) == (102 : Int))) from p_eql rfl rfl rfl) ?_
  refine DL.pu 77 (.bool false) rfl (p_assign rfl rfl) ?_
  refine DL.nil ?_
  refine TT.cf rfl rfl rfl ?_
  refine TT.sq rfl ?_
  refine TT.rg [0,1] [kp,kp] rfl rfl ?_
  refine DL.pu 86 (.bool false) rfl (show FPure _ _ _ (.bool ((112 : Int) == (100 : Int))) from p_eql rfl rfl rfl) ?_
  refine DL.pu 85 (.bool false) rfl (p_assign rfl rfl) ?_
  refine DL.nil ?_
  refine TT.cf rfl rfl rfl ?_
  refine TT.sq rfl ?_
  refine TT.rg [0,1] [kp,kp] rfl rfl ?_
  refine DL.pu 94 (.bool false) rfl (show FPure _ _ _ (.bool ((112 : Int) == (109 : Int))) from p_eql rfl rfl rfl) ?_
  refine DL.pu 93 (.bool false) rfl (p_assign rfl rfl) ?_
  refine DL.nil ?_
  refine TT.cf rfl rfl rfl ?_
  refine TT.sq rfl ?_
  refine TT.rg [0,1] [kp,kp] rfl rfl ?_
  refine DL.pu 102 (.bool false) rfl (show FPure _ _ _ (.bool ((112 : Int) == (121 : Int))) from p_eql rfl rfl rfl) ?_
  refine DL.pu 101 (.bool false) rfl (p_assign rfl rfl) ?_
  refine DL.nil ?_
  refine TT.cf rfl rfl rfl ?_
  refine TT.sq rfl ?_
  refine TT.rg [0,1,2,3] [kp,kq,kp,kp] rfl rfl ?_
  refine DL.pu 23 (ptr b1 110) rfl (p_fieldAddr ty_f36_10 rfl rfl) ?_
  refine DL.qu 24 (a0_110) rfl (FImm.quiet (i_loadBoxO (I:=M7) (hx7 _ _ hm_2) rfl ty_a34 rfl rfl) (fun w hc => hE15.imm hc)) ?_
  refine DL.pu 25 (.int .i64 (a0.picks.length : Int)) rfl (p_slLen ty_u34 (RowV.sl (IntRow.mono hr_a0_110 (hx2.trans hx7))) rfl rfl) ?_
  refine DL.mv 26 (.int .i64 0) rfl rfl rfl ?_
  refine DL.nil ?_
  refine TT.bk rfl ?_
  refine TT.lp rfl ?_
  obtain ⟨z_o16_347,h367,h368⟩:=bind_some h13
  refine TT.weak (script_actText.L0_ok a0 a0_110 b1 t8 b14 b275 hE15 (Glob.mono hG (hx2.trans hx7)) (IntRow.mono hr_a0_110 (hx2.trans hx7)) ((a0.picks.length : Int).toNat + 1) ([t8] : List (List UInt8)) 0 s17_v s17_c z_o16_347 ho_s17 h367 (fun z_o16_347_v z_o16_347_c ho_z_o16_347 => ?_)) (Sub.cons rfl (Sub.cons rfl (Sub.cons rfl (Sub.cons rfl (Sub.cons rfl (Sub.cons rfl (Sub.nil _)))))))
  refine TT.inBlock ?_
  refine TT.inBlock ?_
  refine TT.inLoop ?_
  refine TT.sq rfl ?_
  refine TT.rg [0,1] [kx,kp] rfl rfl ?_
  refine DL.chrE (j:=0) rfl rfl rfl rfl rfl rfl (by decide) rfl rfl ?_
  refine DL.pu 20 (.bool false) rfl (p_extract rfl rfl rfl) ?_
  refine DL.nil ?_
  refine TT.sq rfl ?_
  refine TT.cf rfl rfl rfl ?_
  refine TT.exit rfl ?_
  refine TT.sq rfl ?_
  refine TT.rg [0,1,2] [kp,kq,kp] rfl rfl ?_
  refine DL.mv 109 (z_o16_347_v) rfl rfl rfl ?_
  obtain ⟨g370,h371⟩:=req_some h368
  obtain ⟨g372,h373⟩:=req_some h371
  obtain ⟨t374,e375,h376⟩:=nm_some h373
  refine DL.qu 110 (str t374) rfl (by rw [e375]; exact f_callR rfl rfl (args_val (vs:=[z_o16_347_v,str [32]]) rfl) (fun w => enter69 _ w) (fun w hc => join_ok (i:=1) _ ho_z_o16_347 hc rfl g370 g372)) ?_
  refine DL.pu 2 (str t374) rfl (p_assign rfl rfl) ?_
  refine DL.nil ?_
  obtain rfl:=Option.some.inj h376
  exact retnE (rs:=[.tmp 2]) (vs:=[str t374]) hE15.base Tryz.func37 rfl rfl rfl (res_cons (ResV.tmp rfl) res_nil) rfl
 replace h13:=(if_neg (by simpa using hs18_9)).symm.trans h13
 by_cases hs18_10 : t11 = zU
 ·
  subst hs18_10
  replace h13:=(if_pos (by decide)).symm.trans h13
  refine DL.keep (X:=Nat) (u:=fun b => ptr b 0) (H':=fun b => (some b,.stringIter ⟨#[]⟩ 0) :: [(Value.ownBlock s17_v,.cells s17_c 9 (0,0)),(some b14,.cells (#[str t8,str zU]) 86 (0,0))]) (fun _ p hp => List.mem_cons_of_mem _ hp) (i:=2) rfl (Wn.none rfl) rfl rfl rfl (f_rangeText (s:=⟨#[]⟩) (by kernel_rfl : Tryz.prog.underlying 9 = some .string) rfl rfl) ?_
  intro b377
  refine DL.nil ?_
  refine TT.bk rfl ?_
  refine TT.lp rfl ?_
  refine TT.sq rfl ?_
  refine TT.rg [0,1] [kx,kp] rfl rfl ?_
  refine DL.chrE (j:=0) rfl rfl rfl rfl rfl rfl (by decide) rfl rfl ?_
  refine DL.pu 20 (.bool false) rfl (p_extract rfl rfl rfl) ?_
  refine DL.nil ?_
  refine TT.sq rfl ?_
  refine TT.cf rfl rfl rfl ?_
  refine TT.exit rfl ?_
  refine TT.sq rfl ?_
  refine TT.rg [0,1,2] [kp,kq,kp] rfl rfl ?_
  refine DL.mv 109 (s17_v) rfl rfl rfl ?_
  obtain ⟨g378,h379⟩:=req_some h13
  obtain ⟨g380,h381⟩:=req_some h379
  obtain ⟨t382,e383,h384⟩:=nm_some h381
  refine DL.qu 110 (str t382) rfl (by rw [e383]; exact f_callR rfl rfl (args_val (vs:=[s17_v,str [32]]) rfl) (fun w => enter69 _ w) (fun w hc => join_ok (i:=1) _ ho_s17 hc rfl g378 g380)) ?_
  refine DL.pu 2 (str t382) rfl (p_assign rfl rfl) ?_
  refine DL.nil ?_
  obtain rfl:=Option.some.inj h384
  exact retnE (rs:=[.tmp 2]) (vs:=[str t382]) hE15.base Tryz.func37 rfl rfl rfl (res_cons (ResV.tmp rfl) res_nil) rfl
 replace h13:=(if_neg (by simpa using hs18_10)).symm.trans h13
 by_cases hs18_11 : t11 = [110,97,98]
 ·
  subst hs18_11
  replace h13:=(if_pos (by decide)).symm.trans h13
  refine DL.keep (X:=Nat) (u:=fun b => ptr b 0) (H':=fun b => (some b,.stringIter ⟨#[110,97,98]⟩ 0) :: [(Value.ownBlock s17_v,.cells s17_c 9 (0,0)),(some b14,.cells (#[str t8,str [110,97,98]]) 86 (0,0))]) (fun _ p hp => List.mem_cons_of_mem _ hp) (i:=2) rfl (Wn.none rfl) rfl rfl rfl (f_rangeText (s:=⟨#[110,97,98]⟩) (by kernel_rfl : Tryz.prog.underlying 9 = some .string) rfl rfl) ?_
  intro b385
  refine DL.nil ?_
  refine TT.bk rfl ?_
  refine TT.lp rfl ?_
  refine TT.sq rfl ?_
  refine TT.rg [0,1] [kx,kp] rfl rfl ?_
  refine DL.chr (j:=0) (c:=110) (wd:=1) rfl rfl rfl rfl rfl rfl (by decide) (by kernel_rfl) rfl rfl ?_
  refine DL.pu 20 (.bool true) rfl (p_extract rfl rfl rfl) ?_
  refine DL.nil ?_
  refine TT.sq rfl ?_
  refine TT.ct rfl rfl rfl ?_
  refine TT.skip ?_
  refine TT.bk rfl ?_
  refine TT.sq rfl ?_
  refine TT.rg [0,1] [kp,kp] rfl rfl ?_
  refine DL.pu 21 (.int .i32 110) rfl (p_extract rfl rfl rfl) ?_
  refine DL.pu 6 (.int .i32 110) rfl (p_assign rfl rfl) ?_
  refine DL.nil ?_
  refine TT.sq rfl ?_
  refine TT.rg [0] [kp] rfl rfl ?_
  refine DL.mv 22 (.int .i32 110) rfl rfl rfl ?_
  refine DL.nil ?_
  refine TT.bk rfl ?_
  refine TT.sq rfl ?_
  refine TT.rg [0,1] [kp,kp] rfl rfl ?_
  refine DL.pu 37 (.bool false) rfl (show FPure _ _ _ (.bool ((110 : Int) == (99 : Int))) from p_eql rfl rfl rfl) ?_
  refine DL.pu 36 (.bool false) rfl (p_assign rfl rfl) ?_
  refine DL.nil ?_
  refine TT.cf rfl rfl rfl ?_
  refine TT.sq rfl ?_
  refine TT.rg [0,1] [kp,kp] rfl rfl ?_
  refine DL.pu 45 (.bool true) rfl (show FPure _ _ _ (.bool ((110 : Int) == (110 : Int))) from p_eql rfl rfl rfl) ?_
  refine DL.pu 44 (.bool true) rfl (p_assign rfl rfl) ?_
  refine DL.nil ?_
  refine TT.ct rfl rfl rfl ?_
  refine TT.rg [0,1,2,3,4,5,6] [kp,kp,kq,kq,kA,kx,kp] rfl rfl ?_
  refine DL.mv 46 (s17_v) rfl rfl rfl ?_
  refine DL.pu 47 (ptr b1 2) rfl (p_fieldAddr ty_f36_2 rfl rfl) ?_
  refine DL.qu 48 (.int .i64 a0.n) rfl (FImm.quiet (i_loadBoxO (I:=M7) (hx7 _ _ hm_2) rfl ty_a3 rfl rfl) (fun w hc => hE15.imm hc)) ?_
  obtain ⟨g386,h387⟩:=req_some h13
  obtain ⟨g388,h389⟩:=req_some h387
  obtain ⟨t390,e391,h392⟩:=nm_some h389
  refine DL.qu 49 (str t390) rfl (by rw [e391]; exact f_callR rfl rfl (args_val (vs:=[.int .i64 a0.n]) rfl) (fun w => enter63 _ w) (fun w hc => itoa_ok (Glob.mono hG (hx2.trans hx7)) _ g386 g388 w (hE15.ext hc))) ?_
  refine DL.newS (M:=M7) (s:=Sh.str) (zs:=([t390] : List (List UInt8))) (cells:=[str t390]) (n:=1) rfl (by decide) rfl (fun i x hx => by match i,hx with | 0,hx => cases hx; exact rfl | k + 1,hx => simp at hx) (i:=4) rfl (Wn.none rfl) rfl rfl rfl (f_buildS (n:=1) (vs:=[(0,str t390)]) elem46 rfl rfl (by kernel_rfl) rfl (args_val2 rfl)) ?_
  intro s394_v s394_c ho_s394
  obtain ⟨g395,h396⟩:=req_some h392
  refine DL.appendS (M:=M7) (s:=Sh.str) (fun s397_v s397_c => [(Value.ownBlock s394_v,.cells s394_c 9 (0,0)),(some b385,.stringIter ⟨#[110,97,98]⟩ 1),(Value.ownBlock s397_v,.cells s397_c 9 (0,0)),(some b14,.cells (#[str t8,str [110,97,98]]) 86 (0,0))]) elem46 (j:=2) rfl ho_s17 g395 (by decide) (OwnS.src (i:=0) ho_s394 rfl) (i:=5) rfl (Wn.none rfl) rfl rfl rfl rfl rfl rfl (fun _ _ => rfl) ?_
  intro s397_v s397_c ho_s397
  refine DL.pu 4 (s397_v) rfl (p_assign rfl rfl) ?_
  refine DL.nil ?_
  refine TT.inBlock ?_
  refine TT.inBlock ?_
  refine TT.inLoop ?_
  refine TT.sq rfl ?_
  refine TT.rg [0,1] [kx,kp] rfl rfl ?_
  refine DL.chr (j:=1) (c:=97) (wd:=1) rfl rfl rfl rfl rfl rfl (by decide) (by kernel_rfl) rfl rfl ?_
  refine DL.pu 20 (.bool true) rfl (p_extract rfl rfl rfl) ?_
  refine DL.nil ?_
  refine TT.sq rfl ?_
  refine TT.ct rfl rfl rfl ?_
  refine TT.skip ?_
  refine TT.bk rfl ?_
  refine TT.sq rfl ?_
  refine TT.rg [0,1] [kp,kp] rfl rfl ?_
  refine DL.pu 21 (.int .i32 97) rfl (p_extract rfl rfl rfl) ?_
  refine DL.pu 6 (.int .i32 97) rfl (p_assign rfl rfl) ?_
  refine DL.nil ?_
  refine TT.sq rfl ?_
  refine TT.rg [0] [kp] rfl rfl ?_
  refine DL.mv 22 (.int .i32 97) rfl rfl rfl ?_
  refine DL.nil ?_
  refine TT.bk rfl ?_
  refine TT.sq rfl ?_
  refine TT.rg [0,1] [kp,kp] rfl rfl ?_
  refine DL.pu 37 (.bool false) rfl (show FPure _ _ _ (.bool ((97 : Int) == (99 : Int))) from p_eql rfl rfl rfl) ?_
  refine DL.pu 36 (.bool false) rfl (p_assign rfl rfl) ?_
  refine DL.nil ?_
  refine TT.cf rfl rfl rfl ?_
  refine TT.sq rfl ?_
  refine TT.rg [0,1] [kp,kp] rfl rfl ?_
  refine DL.pu 45 (.bool false) rfl (show FPure _ _ _ (.bool ((97 : Int) == (110 : Int))) from p_eql rfl rfl rfl) ?_
  refine DL.pu 44 (.bool false) rfl (p_assign rfl rfl) ?_
  refine DL.nil ?_
  refine TT.cf rfl rfl rfl ?_
  refine TT.sq rfl ?_
  refine TT.rg [0,1] [kp,kp] rfl rfl ?_
  refine DL.pu 53 (.bool true) rfl (show FPure _ _ _ (.bool ((97 : Int) == (97 : Int))) from p_eql rfl rfl rfl) ?_
  refine DL.pu 52 (.bool true) rfl (p_assign rfl rfl) ?_
  refine DL.nil ?_
  refine TT.ct rfl rfl rfl ?_
  refine TT.rg [0,1,2,3,4,5,6] [kp,kp,kq,kq,kA,kx,kp] rfl rfl ?_
  refine DL.mv 54 (s397_v) rfl rfl rfl ?_
  refine DL.pu 55 (ptr b1 3) rfl (p_fieldAddr ty_f36_3 rfl rfl) ?_
  refine DL.qu 56 (.int .i64 a0.at_) rfl (FImm.quiet (i_loadBoxO (I:=M7) (hx7 _ _ hm_2) rfl ty_a3 rfl rfl) (fun w hc => hE15.imm hc)) ?_
  obtain ⟨g398,h399⟩:=req_some h396
  obtain ⟨g400,h401⟩:=req_some h399
  obtain ⟨t402,e403,h404⟩:=nm_some h401
  refine DL.qu 57 (str t402) rfl (by rw [e403]; exact f_callR rfl rfl (args_val (vs:=[.int .i64 a0.at_]) rfl) (fun w => enter63 _ w) (fun w hc => itoa_ok (Glob.mono hG (hx2.trans hx7)) _ g398 g400 w (hE15.ext hc))) ?_
  refine DL.newS (M:=M7) (s:=Sh.str) (zs:=([t402] : List (List UInt8))) (cells:=[str t402]) (n:=1) rfl (by decide) rfl (fun i x hx => by match i,hx with | 0,hx => cases hx; exact rfl | k + 1,hx => simp at hx) (i:=4) rfl (Wn.none rfl) rfl rfl rfl (f_buildS (n:=1) (vs:=[(0,str t402)]) elem46 rfl rfl (by kernel_rfl) rfl (args_val2 rfl)) ?_
  intro s406_v s406_c ho_s406
  obtain ⟨g407,h408⟩:=req_some h404
  refine DL.appendS (M:=M7) (s:=Sh.str) (fun s409_v s409_c => [(Value.ownBlock s406_v,.cells s406_c 9 (0,0)),(Value.ownBlock s394_v,.cells s394_c 9 (0,0)),(some b385,.stringIter ⟨#[110,97,98]⟩ 2),(Value.ownBlock s409_v,.cells s409_c 9 (0,0)),(some b14,.cells (#[str t8,str [110,97,98]]) 86 (0,0))]) elem46 (j:=3) rfl ho_s397 g407 (by decide) (OwnS.src (i:=0) ho_s406 rfl) (i:=5) rfl (Wn.none rfl) rfl rfl rfl rfl rfl rfl (fun _ _ => rfl) ?_
  intro s409_v s409_c ho_s409
  refine DL.pu 4 (s409_v) rfl (p_assign rfl rfl) ?_
  refine DL.nil ?_
  refine TT.inBlock ?_
  refine TT.inBlock ?_
  refine TT.inLoop ?_
  refine TT.sq rfl ?_
  refine TT.rg [0,1] [kx,kp] rfl rfl ?_
  refine DL.chr (j:=2) (c:=98) (wd:=1) rfl rfl rfl rfl rfl rfl (by decide) (by kernel_rfl) rfl rfl ?_
  refine DL.pu 20 (.bool true) rfl (p_extract rfl rfl rfl) ?_
  refine DL.nil ?_
  refine TT.sq rfl ?_
  refine TT.ct rfl rfl rfl ?_
  refine TT.skip ?_
  refine TT.bk rfl ?_
  refine TT.sq rfl ?_
  refine TT.rg [0,1] [kp,kp] rfl rfl ?_
  refine DL.pu 21 (.int .i32 98) rfl (p_extract rfl rfl rfl) ?_
  refine DL.pu 6 (.int .i32 98) rfl (p_assign rfl rfl) ?_
  refine DL.nil ?_
  refine TT.sq rfl ?_
  refine TT.rg [0] [kp] rfl rfl ?_
  refine DL.mv 22 (.int .i32 98) rfl rfl rfl ?_
  refine DL.nil ?_
  refine TT.bk rfl ?_
  refine TT.sq rfl ?_
  refine TT.rg [0,1] [kp,kp] rfl rfl ?_
  refine DL.pu 37 (.bool false) rfl (show FPure _ _ _ (.bool ((98 : Int) == (99 : Int))) from p_eql rfl rfl rfl) ?_
  refine DL.pu 36 (.bool false) rfl (p_assign rfl rfl) ?_
  refine DL.nil ?_
  refine TT.cf rfl rfl rfl ?_
  refine TT.sq rfl ?_
  refine TT.rg [0,1] [kp,kp] rfl rfl ?_
  refine DL.pu 45 (.bool false) rfl (show FPure _ _ _ (.bool ((98 : Int) == (110 : Int))) from p_eql rfl rfl rfl) ?_
  refine DL.pu 44 (.bool false) rfl (p_assign rfl rfl) ?_
  refine DL.nil ?_
  refine TT.cf rfl rfl rfl ?_
  refine TT.sq rfl ?_
  refine TT.rg [0,1] [kp,kp] rfl rfl ?_
  refine DL.pu 53 (.bool false) rfl (show FPure _ _ _ (.bool ((98 : Int) == (97 : Int))) from p_eql rfl rfl rfl) ?_
  refine DL.pu 52 (.bool false) rfl (p_assign rfl rfl) ?_
  refine DL.nil ?_
  refine TT.cf rfl rfl rfl ?_
  refine TT.sq rfl ?_
  refine TT.rg [0,1] [kp,kp] rfl rfl ?_
  refine DL.pu 61 (.bool true) rfl (show FPure _ _ _ (.bool ((98 : Int) == (98 : Int))) from p_eql rfl rfl rfl) ?_
  refine DL.pu 60 (.bool true) rfl (p_assign rfl rfl) ?_
  refine DL.nil ?_
  refine TT.ct rfl rfl rfl ?_
  refine TT.rg [0,1,2,3,4,5,6,7] [kp,kp,kq,kp,kq,kA,kx,kp] rfl rfl ?_
  refine DL.mv 62 (s409_v) rfl rfl rfl ?_
  refine DL.pu 63 (ptr b1 4) rfl (p_fieldAddr ty_f36_4 rfl rfl) ?_
  refine DL.qu 64 (.int .u8 a0.byt) rfl (FImm.quiet (i_loadBoxO (I:=M7) (hx7 _ _ hm_2) rfl ty_a5 rfl rfl) (fun w hc => hE15.imm hc)) ?_
  refine DL.pu 65 (.int .i64 (IntKind.i64.wrap a0.byt)) rfl (p_conv ty_u5 ty_u3 ⟨_,rfl⟩ rfl rfl) ?_
  obtain ⟨g410,h411⟩:=req_some h408
  obtain ⟨g412,h413⟩:=req_some h411
  obtain ⟨t414,e415,h416⟩:=nm_some h413
  refine DL.qu 66 (str t414) rfl (by rw [e415]; exact f_callR rfl rfl (args_val (vs:=[.int .i64 (IntKind.i64.wrap a0.byt)]) rfl) (fun w => enter63 _ w) (fun w hc => itoa_ok (Glob.mono hG (hx2.trans hx7)) _ g410 g412 w (hE15.ext hc))) ?_
  refine DL.newS (M:=M7) (s:=Sh.str) (zs:=([t414] : List (List UInt8))) (cells:=[str t414]) (n:=1) rfl (by decide) rfl (fun i x hx => by match i,hx with | 0,hx => cases hx; exact rfl | k + 1,hx => simp at hx) (i:=5) rfl (Wn.none rfl) rfl rfl rfl (f_buildS (n:=1) (vs:=[(0,str t414)]) elem46 rfl rfl (by kernel_rfl) rfl (args_val2 rfl)) ?_
  intro s418_v s418_c ho_s418
  obtain ⟨g419,h420⟩:=req_some h416
  refine DL.appendS (M:=M7) (s:=Sh.str) (fun s421_v s421_c => [(Value.ownBlock s418_v,.cells s418_c 9 (0,0)),(Value.ownBlock s406_v,.cells s406_c 9 (0,0)),(Value.ownBlock s394_v,.cells s394_c 9 (0,0)),(some b385,.stringIter ⟨#[110,97,98]⟩ 3),(Value.ownBlock s421_v,.cells s421_c 9 (0,0)),(some b14,.cells (#[str t8,str [110,97,98]]) 86 (0,0))]) elem46 (j:=4) rfl ho_s409 g419 (by decide) (OwnS.src (i:=0) ho_s418 rfl) (i:=6) rfl (Wn.none rfl) rfl rfl rfl rfl rfl rfl (fun _ _ => rfl) ?_
  intro s421_v s421_c ho_s421
  refine DL.pu 4 (s421_v) rfl (p_assign rfl rfl) ?_
  refine DL.nil ?_
  refine TT.inBlock ?_
  refine TT.inBlock ?_
  refine TT.inLoop ?_
  refine TT.sq rfl ?_
  refine TT.rg [0,1] [kx,kp] rfl rfl ?_
  refine DL.chrE (j:=3) rfl rfl rfl rfl rfl rfl (by decide) rfl rfl ?_
  refine DL.pu 20 (.bool false) rfl (p_extract rfl rfl rfl) ?_
  refine DL.nil ?_
  refine TT.sq rfl ?_
  refine TT.cf rfl rfl rfl ?_
  refine TT.exit rfl ?_
  refine TT.sq rfl ?_
  refine TT.rg [0,1,2] [kp,kq,kp] rfl rfl ?_
  refine DL.mv 109 (s421_v) rfl rfl rfl ?_
  obtain ⟨g422,h423⟩:=req_some h420
  obtain ⟨g424,h425⟩:=req_some h423
  obtain ⟨t426,e427,h428⟩:=nm_some h425
  refine DL.qu 110 (str t426) rfl (by rw [e427]; exact f_callR rfl rfl (args_val (vs:=[s421_v,str [32]]) rfl) (fun w => enter69 _ w) (fun w hc => join_ok (i:=4) _ ho_s421 hc rfl g422 g424)) ?_
  refine DL.pu 2 (str t426) rfl (p_assign rfl rfl) ?_
  refine DL.nil ?_
  obtain rfl:=Option.some.inj h428
  exact retnE (rs:=[.tmp 2]) (vs:=[str t426]) hE15.base Tryz.func37 rfl rfl rfl (res_cons (ResV.tmp rfl) res_nil) rfl
 replace h13:=(if_neg (by simpa using hs18_11)).symm.trans h13
 cases h13
theorem script_actText.val {a0 : Act} {a0_108 : Value} {a0_109 : Value} {a0_110 : Value} {r : List UInt8} (h : script_actText.f a0 = some r) {M : Mem} (w : World) (hM : Ext M (heapOf w)) (hG : Glob M) (hr_a0_108 : IntRow M .u8 a0_108 a0.cmd.data) (hr_a0_109 : IntRow M .u8 a0_109 a0.bytes) (hr_a0_110 : IntRow M .i64 a0_110 a0.picks) : Calls Tryz.prog 37 #[.agg (Act.ce a0 a0_108 a0_109 a0_110)] w fun e w' => e = .returned (str r) ∧ Below w.heap.size w w' :=
 calls_value (script_actText.ok h w hM hG hr_a0_108 hr_a0_109 hr_a0_110)

end Go.Proofs.YthldgjbmjgjogaaGreatDoor
