import Derived.Test.YtjhknfpociahoaaDoorDerLib
namespace Go.Proofs.YtjhknfpociahoaaDoor
open Go Go.HW Go.RowKit
set_option linter.unusedVariables false
set_option linter.unusedSimpArgs false

theorem mixed : Tryd.prog.follows .mixedOrders = true:=by kernel_rfl
theorem ty_u23 (w : World) : (underlying 23).run Tryd.prog w = .ok (.slice 5) w:=by kernel_rfl
theorem ty_s5 (w : World) : (sizeOf 5).run Tryd.prog w = .ok 1 w:=by kernel_rfl
theorem ty_a5 (w : World) : (isAgg 5).run Tryd.prog w = .ok false w:=by kernel_rfl
theorem ty_u24 (w : World) : (underlying 24).run Tryd.prog w = .ok (.slice 50) w:=by kernel_rfl
theorem ty_s50 (w : World) : (sizeOf 50).run Tryd.prog w = .ok 1 w:=by kernel_rfl
theorem ty_a50 (w : World) : (isAgg 50).run Tryd.prog w = .ok false w:=by kernel_rfl
theorem elem86 : Elem Tryd.prog 86 3 1 8 (.int .i64 0):=Elem.of (by kernel_rfl) (by kernel_rfl) rfl (by decide)
theorem ty_f27_0 (a : Addr) (w : World) : (Instr.fieldAt 27 (.pointer (some a)) 0).run Tryd.prog w = .ok (.pointer (some (a.add 0))) w:=by kernel_rfl
theorem ty_a22 (w : World) : (isAgg 22).run Tryd.prog w = .ok false w:=by kernel_rfl
theorem ty_u86 (w : World) : (underlying 86).run Tryd.prog w = .ok (.slice 3) w:=by kernel_rfl
theorem ty_f27_2 (a : Addr) (w : World) : (Instr.fieldAt 27 (.pointer (some a)) 2).run Tryd.prog w = .ok (.pointer (some (a.add 2))) w:=by kernel_rfl
theorem ty_a2 (w : World) : (isAgg 2).run Tryd.prog w = .ok false w:=by kernel_rfl
theorem ty_s3 (w : World) : (sizeOf 3).run Tryd.prog w = .ok 1 w:=by kernel_rfl
theorem ty_a3 (w : World) : (isAgg 3).run Tryd.prog w = .ok false w:=by kernel_rfl
theorem ty_z27 (w : World) : (zeroValue 27).run Tryd.prog w = .ok (.agg #[.int .i64 0,.bool false,.int .i64 0,(.slice none 0 0),str ([] : List UInt8),(.slice none 0 0),(.slice none 0 0)]) w:=by kernel_rfl
theorem ty_s27 (w : World) : (sizeOf 27).run Tryd.prog w = .ok 7 w:=by kernel_rfl
theorem ty_f27_1 (a : Addr) (w : World) : (Instr.fieldAt 27 (.pointer (some a)) 1).run Tryd.prog w = .ok (.pointer (some (a.add 1))) w:=by kernel_rfl
theorem ty_a4 (w : World) : (isAgg 4).run Tryd.prog w = .ok false w:=by kernel_rfl
theorem ty_s4 (w : World) : (sizeOf 4).run Tryd.prog w = .ok 1 w:=by kernel_rfl
theorem ty_a27 (w : World) : (isAgg 27).run Tryd.prog w = .ok true w:=by kernel_rfl
theorem ty_f27_3 (a : Addr) (w : World) : (Instr.fieldAt 27 (.pointer (some a)) 3).run Tryd.prog w = .ok (.pointer (some (a.add 3))) w:=by kernel_rfl
theorem ty_a23 (w : World) : (isAgg 23).run Tryd.prog w = .ok false w:=by kernel_rfl
theorem ty_s23 (w : World) : (sizeOf 23).run Tryd.prog w = .ok 1 w:=by kernel_rfl
theorem ty_f27_5 (a : Addr) (w : World) : (Instr.fieldAt 27 (.pointer (some a)) 5).run Tryd.prog w = .ok (.pointer (some (a.add 5))) w:=by kernel_rfl
theorem ty_a24 (w : World) : (isAgg 24).run Tryd.prog w = .ok false w:=by kernel_rfl
theorem ty_s24 (w : World) : (sizeOf 24).run Tryd.prog w = .ok 1 w:=by kernel_rfl
theorem ty_f27_4 (a : Addr) (w : World) : (Instr.fieldAt 27 (.pointer (some a)) 4).run Tryd.prog w = .ok (.pointer (some (a.add 4))) w:=by kernel_rfl
theorem ty_a9 (w : World) : (isAgg 9).run Tryd.prog w = .ok false w:=by kernel_rfl
theorem ty_s9 (w : World) : (sizeOf 9).run Tryd.prog w = .ok 1 w:=by kernel_rfl
theorem ty_s2 (w : World) : (sizeOf 2).run Tryd.prog w = .ok 1 w:=by kernel_rfl
theorem ty_f27_6 (a : Addr) (w : World) : (Instr.fieldAt 27 (.pointer (some a)) 6).run Tryd.prog w = .ok (.pointer (some (a.add 6))) w:=by kernel_rfl
theorem ty_a25 (w : World) : (isAgg 25).run Tryd.prog w = .ok false w:=by kernel_rfl
theorem ty_s25 (w : World) : (sizeOf 25).run Tryd.prog w = .ok 1 w:=by kernel_rfl
theorem ty_u5 (w : World) : (underlying 5).run Tryd.prog w = .ok (.int .u8) w:=by kernel_rfl
theorem ty_u3 (w : World) : (underlying 3).run Tryd.prog w = .ok (.int .i64) w:=by kernel_rfl
theorem ty_u50 (w : World) : (underlying 50).run Tryd.prog w = .ok (.int .u64) w:=by kernel_rfl
theorem ty_u2 (w : World) : (underlying 2).run Tryd.prog w = .ok (.int .i64) w:=by kernel_rfl
theorem elem24 : Elem Tryd.prog 24 50 1 8 (.int .u64 0):=Elem.of (by kernel_rfl) (by kernel_rfl) rfl (by decide)
theorem ty_u45 (w : World) : (underlying 45).run Tryd.prog w = .ok (.int .u64) w:=by kernel_rfl
theorem elem23 : Elem Tryd.prog 23 5 1 1 (.int .u8 0):=Elem.of (by kernel_rfl) (by kernel_rfl) rfl (by decide)
theorem ty_u9 (w : World) : (underlying 9).run Tryd.prog w = .ok (.string) w:=by kernel_rfl
theorem ty_u25 (w : World) : (underlying 25).run Tryd.prog w = .ok (.slice 27) w:=by kernel_rfl
theorem enter25 (args : Array Value) (w : World) : (callFunc 25 args).run Tryd.prog w = .ok (.enter 25 args) w:=by kernel_rfl
theorem enter67 (args : Array Value) (w : World) : (callFunc 67 args).run Tryd.prog w = .ok (.enter 67 args) w:=by kernel_rfl
theorem ty_u4 (w : World) : (underlying 4).run Tryd.prog w = .ok (.bool) w:=by kernel_rfl
theorem ty_us23 : Tryd.prog.underlying 23 = some (.slice 5):=by kernel_rfl
theorem ty_us5 : Tryd.prog.underlying 5 = some (.int .u8):=by kernel_rfl
theorem ty_us9 : Tryd.prog.underlying 9 = some (.string):=by kernel_rfl
theorem enter18 (args : Array Value) (w : World) : (callFunc 18 args).run Tryd.prog w = .ok (.enter 18 args) w:=by kernel_rfl
theorem enter17 (args : Array Value) (w : World) : (callFunc 17 args).run Tryd.prog w = .ok (.enter 17 args) w:=by kernel_rfl
theorem enter35 (args : Array Value) (w : World) : (callFunc 35 args).run Tryd.prog w = .ok (.enter 35 args) w:=by kernel_rfl
theorem enter36 (args : Array Value) (w : World) : (callFunc 36 args).run Tryd.prog w = .ok (.enter 36 args) w:=by kernel_rfl
theorem enter37 (args : Array Value) (w : World) : (callFunc 37 args).run Tryd.prog w = .ok (.enter 37 args) w:=by kernel_rfl
theorem enter49 (args : Array Value) (w : World) : (callFunc 49 args).run Tryd.prog w = .ok (.enter 49 args) w:=by kernel_rfl
theorem enter46 (args : Array Value) (w : World) : (callFunc 46 args).run Tryd.prog w = .ok (.enter 46 args) w:=by kernel_rfl
theorem ty_us25 : Tryd.prog.underlying 25 = some (.slice 27):=by kernel_rfl
theorem elem25 : Elem Tryd.prog 25 27 7 112 (.agg #[.int .i64 0,.bool false,.int .i64 0,(.slice none 0 0),str ([] : List UInt8),(.slice none 0 0),(.slice none 0 0)]):=Elem.of (by kernel_rfl) (by kernel_rfl) rfl (by decide)
theorem ty_us24 : Tryd.prog.underlying 24 = some (.slice 50):=by kernel_rfl
theorem enter34 (args : Array Value) (w : World) : (callFunc 34 args).run Tryd.prog w = .ok (.enter 34 args) w:=by kernel_rfl
theorem enter15 (args : Array Value) (w : World) : (callFunc 15 args).run Tryd.prog w = .ok (.enter 15 args) w:=by kernel_rfl
theorem enter64 (args : Array Value) (w : World) : (callFunc 64 args).run Tryd.prog w = .ok (.enter 64 args) w:=by kernel_rfl
theorem enter68 (args : Array Value) (w : World) : (callFunc 68 args).run Tryd.prog w = .ok (.enter 68 args) w:=by kernel_rfl
theorem enter63 (args : Array Value) (w : World) : (callFunc 63 args).run Tryd.prog w = .ok (.enter 63 args) w:=by kernel_rfl
theorem ty_u68 (w : World) : (underlying 68).run Tryd.prog w = .ok (.map 22 5) w:=by kernel_rfl
theorem ty_u22 (w : World) : (underlying 22).run Tryd.prog w = .ok (.int .i64) w:=by kernel_rfl
theorem enter33 (args : Array Value) (w : World) : (callFunc 33 args).run Tryd.prog w = .ok (.enter 33 args) w:=by kernel_rfl
theorem enter52 (args : Array Value) (w : World) : (callFunc 52 args).run Tryd.prog w = .ok (.enter 52 args) w:=by kernel_rfl
theorem enter66 (args : Array Value) (w : World) : (callFunc 66 args).run Tryd.prog w = .ok (.enter 66 args) w:=by kernel_rfl
theorem enter43 (args : Array Value) (w : World) : (callFunc 43 args).run Tryd.prog w = .ok (.enter 43 args) w:=by kernel_rfl
theorem ty_z5 (w : World) : (zeroValue 5).run Tryd.prog w = .ok (.int .u8 0) w:=by kernel_rfl
theorem enter47 (args : Array Value) (w : World) : (callFunc 47 args).run Tryd.prog w = .ok (.enter 47 args) w:=by kernel_rfl
theorem enter48 (args : Array Value) (w : World) : (callFunc 48 args).run Tryd.prog w = .ok (.enter 48 args) w:=by kernel_rfl
theorem enter50 (args : Array Value) (w : World) : (callFunc 50 args).run Tryd.prog w = .ok (.enter 50 args) w:=by kernel_rfl
theorem enter51 (args : Array Value) (w : World) : (callFunc 51 args).run Tryd.prog w = .ok (.enter 51 args) w:=by kernel_rfl
theorem enter59 (args : Array Value) (w : World) : (callFunc 59 args).run Tryd.prog w = .ok (.enter 59 args) w:=by kernel_rfl
theorem enter60 (args : Array Value) (w : World) : (callFunc 60 args).run Tryd.prog w = .ok (.enter 60 args) w:=by kernel_rfl
theorem enter31 (args : Array Value) (w : World) : (callFunc 31 args).run Tryd.prog w = .ok (.enter 31 args) w:=by kernel_rfl
theorem enter44 (args : Array Value) (w : World) : (callFunc 44 args).run Tryd.prog w = .ok (.enter 44 args) w:=by kernel_rfl
theorem enter61 (args : Array Value) (w : World) : (callFunc 61 args).run Tryd.prog w = .ok (.enter 61 args) w:=by kernel_rfl
theorem enter62 (args : Array Value) (w : World) : (callFunc 62 args).run Tryd.prog w = .ok (.enter 62 args) w:=by kernel_rfl
theorem enter32 (args : Array Value) (w : World) : (callFunc 32 args).run Tryd.prog w = .ok (.enter 32 args) w:=by kernel_rfl
theorem enter45 (args : Array Value) (w : World) : (callFunc 45 args).run Tryd.prog w = .ok (.enter 45 args) w:=by kernel_rfl
theorem enter14 (args : Array Value) (w : World) : (callFunc 14 args).run Tryd.prog w = .ok (.enter 14 args) w:=by kernel_rfl
theorem enter40 (args : Array Value) (w : World) : (callFunc 40 args).run Tryd.prog w = .ok (.enter 40 args) w:=by kernel_rfl
theorem enter41 (args : Array Value) (w : World) : (callFunc 41 args).run Tryd.prog w = .ok (.enter 41 args) w:=by kernel_rfl
theorem enter42 (args : Array Value) (w : World) : (callFunc 42 args).run Tryd.prog w = .ok (.enter 42 args) w:=by kernel_rfl
theorem enter12 (args : Array Value) (w : World) : (callFunc 12 args).run Tryd.prog w = .ok (.enter 12 args) w:=by kernel_rfl
theorem enter16 (args : Array Value) (w : World) : (callFunc 16 args).run Tryd.prog w = .ok (.enter 16 args) w:=by kernel_rfl
theorem enter56 (args : Array Value) (w : World) : (callFunc 56 args).run Tryd.prog w = .ok (.enter 56 args) w:=by kernel_rfl
theorem ty_s22 (w : World) : (sizeOf 22).run Tryd.prog w = .ok 1 w:=by kernel_rfl
theorem enter57 (args : Array Value) (w : World) : (callFunc 57 args).run Tryd.prog w = .ok (.enter 57 args) w:=by kernel_rfl
theorem enter58 (args : Array Value) (w : World) : (callFunc 58 args).run Tryd.prog w = .ok (.enter 58 args) w:=by kernel_rfl
theorem enter39 (args : Array Value) (w : World) : (callFunc 39 args).run Tryd.prog w = .ok (.enter 39 args) w:=by kernel_rfl
theorem enter38 (args : Array Value) (w : World) : (callFunc 38 args).run Tryd.prog w = .ok (.enter 38 args) w:=by kernel_rfl
theorem enter53 (args : Array Value) (w : World) : (callFunc 53 args).run Tryd.prog w = .ok (.enter 53 args) w:=by kernel_rfl
theorem ty_u77 (w : World) : (underlying 77).run Tryd.prog w = .ok (.int .i8) w:=by kernel_rfl
theorem enter54 (args : Array Value) (w : World) : (callFunc 54 args).run Tryd.prog w = .ok (.enter 54 args) w:=by kernel_rfl
theorem enter55 (args : Array Value) (w : World) : (callFunc 55 args).run Tryd.prog w = .ok (.enter 55 args) w:=by kernel_rfl
theorem enter21 (args : Array Value) (w : World) : (callFunc 21 args).run Tryd.prog w = .ok (.enter 21 args) w:=by kernel_rfl
theorem enter24 (args : Array Value) (w : World) : (callFunc 24 args).run Tryd.prog w = .ok (.enter 24 args) w:=by kernel_rfl
theorem enter19 (args : Array Value) (w : World) : (callFunc 19 args).run Tryd.prog w = .ok (.enter 19 args) w:=by kernel_rfl
theorem enter10 (args : Array Value) (w : World) : (callFunc 10 args).run Tryd.prog w = .ok (.enter 10 args) w:=by kernel_rfl
theorem enter11 (args : Array Value) (w : World) : (callFunc 11 args).run Tryd.prog w = .ok (.enter 11 args) w:=by kernel_rfl
theorem enter22 (args : Array Value) (w : World) : (callFunc 22 args).run Tryd.prog w = .ok (.enter 22 args) w:=by kernel_rfl
theorem enter23 (args : Array Value) (w : World) : (callFunc 23 args).run Tryd.prog w = .ok (.enter 23 args) w:=by kernel_rfl
theorem enter27 (args : Array Value) (w : World) : (callFunc 27 args).run Tryd.prog w = .ok (.enter 27 args) w:=by kernel_rfl
theorem enter28 (args : Array Value) (w : World) : (callFunc 28 args).run Tryd.prog w = .ok (.enter 28 args) w:=by kernel_rfl
theorem ty_u56 (w : World) : (underlying 56).run Tryd.prog w = .ok (.array 2 27) w:=by kernel_rfl
theorem enter29 (args : Array Value) (w : World) : (callFunc 29 args).run Tryd.prog w = .ok (.enter 29 args) w:=by kernel_rfl
theorem enter30 (args : Array Value) (w : World) : (callFunc 30 args).run Tryd.prog w = .ok (.enter 30 args) w:=by kernel_rfl

/-! ### escutcheon/escutcheonlaw13.num: function 16 -/
noncomputable def B16 : Code:=bodyOf Tryd.f16
def law13_num.f (a0 : Int) : Option (Int):=some a0
set_option maxRecDepth 20000 in
theorem law13_num.ok {a0 : Int} {r : Int} (h : law13_num.f a0 = some r) {M : Mem} (w : World) (hM : Ext M (heapOf w)) : Calls Tryd.prog 16 #[.int .i64 a0] w (Post (fun u => u = .int .i64 r) w):=by
 unfold law13_num.f at h
 have hE:=Env.start hM
 refine calls_of_TT (N:=4) (S:=[(0,.int .i64 a0)]) (c:=B16) Tryd.func16 rfl rfl rfl (by simp) ?_
 show TT _ _ _ _ _ _ [.code (sub [] B16)] _ _
 refine TT.seq (x:=sub [0] B16) (y:=sub [1] B16) ?_
 refine TT.rg [0] [kp] rfl rfl ?_
 refine DL.pu 2 (.int .i64 0) rfl (p_assign rfl rfl) ?_
 refine DL.nil ?_
 refine TT.seq (x:=sub [1,0] B16) (y:=sub [1,1] B16) ?_
 refine TT.rg [0,1] [kp,kp] rfl rfl ?_
 refine DL.mv 3 (.int .i64 a0) rfl rfl rfl ?_
 refine DL.pu 2 (.int .i64 a0) rfl (p_assign rfl rfl) ?_
 refine DL.nil ?_
 obtain rfl:=Option.some.inj h
 exact retnE (rs:=[.tmp 2]) (vs:=[.int .i64 a0]) hE.base Tryd.func16 rfl rfl rfl (res_cons (ResV.tmp rfl) res_nil) rfl
theorem law13_num.val {a0 : Int} {r : Int} (h : law13_num.f a0 = some r) {M : Mem} (w : World) (hM : Ext M (heapOf w)) : Calls Tryd.prog 16 #[.int .i64 a0] w fun e w' => e = .returned (.int .i64 r) ∧ Below w.heap.size w w' :=
 calls_value (law13_num.ok h w hM)

/-! ### slices.Equal[[]byte,byte]: function 35 -/
noncomputable def B35 : Code:=bodyOf Tryd.f35
def slices_Equal_35.L0 (a0 : List Int) (a1 : List Int) : Nat → Int → Option ((Unit) ⊕ (Bool))
 | 0,_ => none
 | k + 1,x13_4 => if (decide (x13_4 < (a0.length : Int))) = true then (req (0 ≤ x13_4) (req (x13_4 < (a0.length : Int)) (req (x13_4 < (a1.length : Int)) (nm ((a0.getD x13_4.toNat 0) != (a1.getD x13_4.toNat 0)) fun t80 => if t80 = true then (some (.inr false)) else (slices_Equal_35.L0 a0 a1 k (IntKind.i64.wrap (x13_4 + 1))))))) else (some (.inl ()))
set_option maxRecDepth 20000 in
theorem slices_Equal_35.L0_ok (a0 : List Int) (a0_v : Value) (a1 : List Int) (a1_v : Value) {r : Bool}  {w0 : World} {M0 M I : Mem} {K : List Item} (hE : Env w0 M0 M I) (hr_a0 : IntRow M .u8 a0_v a0) (hr_a1 : IntRow M .u8 a1_v a1) :
  ∀ (k : Nat) (x13_4 : Int) (q : (Unit) ⊕ (Bool)) (h : slices_Equal_35.L0 a0 a1 k x13_4 = some q) (hk : match (generalizing:=false) q with | .inl () => (TT Tryd.prog 35 (Post (fun u => u = .bool r) w0) 26 w0 I K [] []) | .inr rq => rq = r),
   TT Tryd.prog 35 (Post (fun u => u = .bool r) w0) 26 w0 I (.code (sub [1,1,0,1,0,0] B35) :: .inLoop (sub [1,1,0,1,0,0] B35) :: .inBlock 0 :: K) [(0,a0_v),(1,a1_v),(12,.int .i64 (a0.length : Int)),(13,.int .i64 x13_4)] []:=by
 intro k
 induction k with
 | zero => intro x13_4 q h; simp [slices_Equal_35.L0] at h
 | succ k ih =>
  intro x13_4 q h hk
  unfold slices_Equal_35.L0 at h
  refine TT.seq (x:=sub [1,1,0,1,0,0,0] B35) (y:=sub [1,1,0,1,0,0,1] B35) ?_
  refine TT.rg [0] [kp] rfl rfl ?_
  refine DL.pu 14 (.bool (decide (x13_4 < (a0.length : Int)))) rfl (p_lss rfl rfl rfl) ?_
  refine DL.nil ?_
  refine TT.seq (x:=sub [1,1,0,1,0,0,1,0] B35) (y:=sub [1,1,0,1,0,0,1,1] B35) ?_
  by_cases c71 : (decide (x13_4 < (a0.length : Int))) = true
  ·
   have h72:=ite_true c71 h
   refine TT.cond_true (x:=sub [1,1,0,1,0,0,1,0,0] B35) (y:=sub [1,1,0,1,0,0,1,0,1] B35) rfl c71 ?_
   refine TT.skip ?_
   refine TT.seq (x:=sub [1,1,0,1,0,0,1,1,0] B35) (y:=sub [1,1,0,1,0,0,1,1,1] B35) ?_
   refine TT.block (c:=sub [1,1,0,1,0,0,1,1,0,0] B35) ?_
   refine TT.seq (x:=sub [1,1,0,1,0,0,1,1,0,0,0] B35) (y:=sub [1,1,0,1,0,0,1,1,0,0,1] B35) ?_
   refine TT.rg [0,1] [kp,kp] rfl rfl ?_
   refine DL.mv 15 (.int .i64 x13_4) rfl rfl rfl ?_
   refine DL.pu 5 (.int .i64 x13_4) rfl (p_assign rfl rfl) ?_
   refine DL.nil ?_
   refine TT.seq (x:=sub [1,1,0,1,0,0,1,1,0,0,1,0] B35) (y:=sub [1,1,0,1,0,0,1,1,0,0,1,1] B35) ?_
   refine TT.rgD [0,1,2,3,4,5,6,7,8] [0,0,3,7,0,0,48,112,255] [kp,kp,kp,kp,kp,kp,kp,kp,kp] rfl mixed (by kernel_rfl) ?_
   intro w73 hl73 hj73 hz73
   refine DL.mv 16 (a0_v) rfl rfl rfl ?_
   refine DL.mv 17 (.int .i64 x13_4) rfl rfl rfl ?_
   obtain ⟨g74,h75⟩:=req_some h72
   obtain ⟨g76,h77⟩:=req_some h75
   refine DL.pu 18 (elp a0_v x13_4.toNat) rfl (p_slIx1 ty_u23 ty_s5 (RowV.some hr_a0 g74 g76) g74 g76 rfl rfl rfl) ?_
   refine DL.imm (v:=.int .u8 (a0.getD x13_4.toNat 0)) rfl (Wn.none rfl) rfl rfl rfl (i_loadEl (RowV.mono hr_a0 hE.mi) (encl_get .u8 (lt_len g74 g76)) ty_a5 rfl rfl) ?_
   refine DL.mv 20 (a1_v) rfl rfl rfl ?_
   refine DL.mv 21 (.int .i64 x13_4) rfl rfl rfl ?_
   obtain ⟨g78,h79⟩:=req_some h77
   refine DL.pu 22 (elp a1_v x13_4.toNat) rfl (p_slIx1 ty_u23 ty_s5 (RowV.some hr_a1 g74 g78) g74 g78 rfl rfl rfl) ?_
   refine DL.imm (v:=.int .u8 (a1.getD x13_4.toNat 0)) rfl (Wn.none rfl) rfl rfl rfl (i_loadEl (RowV.mono hr_a1 hE.mi) (encl_get .u8 (lt_len g74 g78)) ty_a5 rfl rfl) ?_
   obtain ⟨t80,e81,h82⟩:=nm_some h79
   refine DL.pu 24 (.bool t80) rfl (by rw [e81]; exact p_neq rfl rfl rfl) ?_
   refine DL.nil' hl73 ?_
   by_cases c83 : t80 = true
   ·
    have h84:=ite_true c83 h82
    refine TT.cond_true (x:=sub [1,1,0,1,0,0,1,1,0,0,1,1,0] B35) (y:=sub [1,1,0,1,0,0,1,1,0,0,1,1,1] B35) rfl c83 ?_
    refine TT.seq (x:=sub [1,1,0,1,0,0,1,1,0,0,1,1,0,0] B35) (y:=sub [1,1,0,1,0,0,1,1,0,0,1,1,0,1] B35) ?_
    refine TT.rg [0] [kp] rfl rfl ?_
    refine DL.pu 4 (.bool false) rfl (p_assign rfl rfl) ?_
    refine DL.nil ?_
    obtain rfl:=Option.some.inj h84
    have k85 : false = r:=hk
    subst k85
    exact retnE (rs:=[.tmp 4]) (vs:=[.bool false]) hE.base Tryd.func35 rfl rfl rfl (res_cons (ResV.tmp rfl) res_nil) rfl
   ·
    replace c83:=Bool.eq_false_iff.mpr c83
    have h86:=ite_false c83 h82
    refine TT.cond_false (x:=sub [1,1,0,1,0,0,1,1,0,0,1,1,0] B35) (y:=sub [1,1,0,1,0,0,1,1,0,0,1,1,1] B35) rfl c83 ?_
    refine TT.skip ?_
    refine TT.inBlock ?_
    refine TT.rg [0,1] [kp,kp] rfl rfl ?_
    refine DL.pu 25 (.int .i64 (IntKind.i64.wrap (x13_4 + 1))) rfl (p_add rfl rfl rfl) ?_
    refine DL.mv 13 (.int .i64 (IntKind.i64.wrap (x13_4 + 1))) rfl rfl rfl ?_
    refine DL.nil ?_
    refine TT.inLoop ?_
    exact TT.weak (ih (IntKind.i64.wrap (x13_4 + 1)) _ h86 hk) (Sub.cons rfl (Sub.cons rfl (Sub.cons rfl (Sub.cons rfl (Sub.nil _)))))
  ·
   replace c71:=Bool.eq_false_iff.mpr c71
   have h87:=ite_false c71 h
   refine TT.cond_false (x:=sub [1,1,0,1,0,0,1,0,0] B35) (y:=sub [1,1,0,1,0,0,1,0,1] B35) rfl c71 ?_
   refine TT.exit rfl ?_
   obtain rfl:=Option.some.inj h87
   exact TT.weak (hk) (Sub.nil _)

def slices_Equal_35.f (a0 : List Int) (a1 : List Int) : Option (Bool):=if ((a0.length : Int) != (a1.length : Int)) = true then (some false) else (onw (slices_Equal_35.L0 a0 a1 ((a0.length : Int).toNat + 1) 0) (fun _ => some true) (fun r => some r))
set_option maxRecDepth 20000 in
theorem slices_Equal_35.ok {a0 : List Int} {a1 : List Int} {a0_v : Value} {a1_v : Value} {r : Bool} (h : slices_Equal_35.f a0 a1 = some r) {M : Mem} (w : World) (hM : Ext M (heapOf w)) (hr_a0 : IntRow M .u8 a0_v a0) (hr_a1 : IntRow M .u8 a1_v a1) : Calls Tryd.prog 35 #[a0_v,a1_v] w (Post (fun u => u = .bool r) w):=by
 unfold slices_Equal_35.f at h
 have hE:=Env.start hM
 refine calls_of_TT (N:=26) (S:=[(0,a0_v),(1,a1_v)]) (c:=B35) Tryd.func35 rfl rfl rfl (by simp) ?_
 show TT _ _ _ _ _ _ [.code (sub [] B35)] _ _
 refine TT.seq (x:=sub [0] B35) (y:=sub [1] B35) ?_
 refine TT.rg [0] [kp] rfl rfl ?_
 refine DL.pu 4 (.bool false) rfl (p_assign rfl rfl) ?_
 refine DL.nil ?_
 refine TT.seq (x:=sub [1,0] B35) (y:=sub [1,1] B35) ?_
 refine TT.seq (x:=sub [1,0,0] B35) (y:=sub [1,0,1] B35) ?_
 refine TT.rg [0,1,2,3,4] [kp,kp,kp,kp,kp] rfl rfl ?_
 refine DL.mv 6 (a0_v) rfl rfl rfl ?_
 refine DL.pu 7 (.int .i64 (a0.length : Int)) rfl (p_slLen ty_u23 (RowV.sl hr_a0) rfl rfl) ?_
 refine DL.mv 8 (a1_v) rfl rfl rfl ?_
 refine DL.pu 9 (.int .i64 (a1.length : Int)) rfl (p_slLen ty_u23 (RowV.sl hr_a1) rfl rfl) ?_
 refine DL.pu 10 (.bool ((a0.length : Int) != (a1.length : Int))) rfl (p_neq rfl rfl rfl) ?_
 refine DL.nil ?_
 by_cases c1 : ((a0.length : Int) != (a1.length : Int)) = true
 ·
  have h2:=ite_true c1 h
  refine TT.cond_true (x:=sub [1,0,1,0] B35) (y:=sub [1,0,1,1] B35) rfl c1 ?_
  refine TT.seq (x:=sub [1,0,1,0,0] B35) (y:=sub [1,0,1,0,1] B35) ?_
  refine TT.rg [0] [kp] rfl rfl ?_
  refine DL.pu 4 (.bool false) rfl (p_assign rfl rfl) ?_
  refine DL.nil ?_
  obtain rfl:=Option.some.inj h2
  exact retnE (rs:=[.tmp 4]) (vs:=[.bool false]) hE.base Tryd.func35 rfl rfl rfl (res_cons (ResV.tmp rfl) res_nil) rfl
 ·
  replace c1:=Bool.eq_false_iff.mpr c1
  have h3:=ite_false c1 h
  refine TT.cond_false (x:=sub [1,0,1,0] B35) (y:=sub [1,0,1,1] B35) rfl c1 ?_
  refine TT.skip ?_
  refine TT.seq (x:=sub [1,1,0] B35) (y:=sub [1,1,1] B35) ?_
  refine TT.seq (x:=sub [1,1,0,0] B35) (y:=sub [1,1,0,1] B35) ?_
  refine TT.rg [0,1,2] [kp,kp,kp] rfl rfl ?_
  refine DL.mv 11 (a0_v) rfl rfl rfl ?_
  refine DL.pu 12 (.int .i64 (a0.length : Int)) rfl (p_slLen ty_u23 (RowV.sl hr_a0) rfl rfl) ?_
  refine DL.mv 13 (.int .i64 0) rfl rfl rfl ?_
  refine DL.nil ?_
  refine TT.block (c:=sub [1,1,0,1,0] B35) ?_
  refine TT.loop (c:=sub [1,1,0,1,0,0] B35) ?_
  rcases onw_some h3 with ⟨_,h88,h89⟩ | ⟨r91,h88,h89⟩
  ·
   refine TT.weak (slices_Equal_35.L0_ok a0 a0_v a1 a1_v hE hr_a0 hr_a1 ((a0.length : Int).toNat + 1) 0 (.inl ()) h88 (?_)) (Sub.cons rfl (Sub.cons rfl (Sub.cons rfl (Sub.cons rfl (Sub.nil _)))))
   show TT _ _ _ _ _ _ _ _ _
   refine TT.seq (x:=sub [1,1,1,0] B35) (y:=sub [1,1,1,1] B35) ?_
   refine TT.rg [0] [kp] rfl rfl ?_
   refine DL.pu 4 (.bool true) rfl (p_assign rfl rfl) ?_
   refine DL.nil ?_
   obtain rfl:=Option.some.inj h89
   exact retnE (rs:=[.tmp 4]) (vs:=[.bool true]) hE.base Tryd.func35 rfl rfl rfl (res_cons (ResV.tmp rfl) res_nil) rfl
  ·
   obtain rfl:=Option.some.inj h89
   exact TT.weak (slices_Equal_35.L0_ok a0 a0_v a1 a1_v hE hr_a0 hr_a1 ((a0.length : Int).toNat + 1) 0 (.inr r91) h88 rfl) (Sub.cons rfl (Sub.cons rfl (Sub.cons rfl (Sub.cons rfl (Sub.nil _)))))
theorem slices_Equal_35.val {a0 : List Int} {a1 : List Int} {a0_v : Value} {a1_v : Value} {r : Bool} (h : slices_Equal_35.f a0 a1 = some r) {M : Mem} (w : World) (hM : Ext M (heapOf w)) (hr_a0 : IntRow M .u8 a0_v a0) (hr_a1 : IntRow M .u8 a1_v a1) : Calls Tryd.prog 35 #[a0_v,a1_v] w fun e w' => e = .returned (.bool r) ∧ Below w.heap.size w w' :=
 calls_value (slices_Equal_35.ok h w hM hr_a0 hr_a1)

/-! ### slices.Equal[[]uint64,uint64]: function 36 -/
noncomputable def B36 : Code:=bodyOf Tryd.f36
def slices_Equal_36.L0 (a0 : List Int) (a1 : List Int) : Nat → Int → Option ((Unit) ⊕ (Bool))
 | 0,_ => none
 | k + 1,x13_4 => if (decide (x13_4 < (a0.length : Int))) = true then (req (0 ≤ x13_4) (req (x13_4 < (a0.length : Int)) (req (x13_4 < (a1.length : Int)) (nm ((a0.getD x13_4.toNat 0) != (a1.getD x13_4.toNat 0)) fun t80 => if t80 = true then (some (.inr false)) else (slices_Equal_36.L0 a0 a1 k (IntKind.i64.wrap (x13_4 + 1))))))) else (some (.inl ()))
set_option maxRecDepth 20000 in
theorem slices_Equal_36.L0_ok (a0 : List Int) (a0_v : Value) (a1 : List Int) (a1_v : Value) {r : Bool}  {w0 : World} {M0 M I : Mem} {K : List Item} (hE : Env w0 M0 M I) (hr_a0 : IntRow M .u64 a0_v a0) (hr_a1 : IntRow M .u64 a1_v a1) :
  ∀ (k : Nat) (x13_4 : Int) (q : (Unit) ⊕ (Bool)) (h : slices_Equal_36.L0 a0 a1 k x13_4 = some q) (hk : match (generalizing:=false) q with | .inl () => (TT Tryd.prog 36 (Post (fun u => u = .bool r) w0) 26 w0 I K [] []) | .inr rq => rq = r),
   TT Tryd.prog 36 (Post (fun u => u = .bool r) w0) 26 w0 I (.code (sub [1,1,0,1,0,0] B36) :: .inLoop (sub [1,1,0,1,0,0] B36) :: .inBlock 0 :: K) [(0,a0_v),(1,a1_v),(12,.int .i64 (a0.length : Int)),(13,.int .i64 x13_4)] []:=by
 intro k
 induction k with
 | zero => intro x13_4 q h; simp [slices_Equal_36.L0] at h
 | succ k ih =>
  intro x13_4 q h hk
  unfold slices_Equal_36.L0 at h
  refine TT.seq (x:=sub [1,1,0,1,0,0,0] B36) (y:=sub [1,1,0,1,0,0,1] B36) ?_
  refine TT.rg [0] [kp] rfl rfl ?_
  refine DL.pu 14 (.bool (decide (x13_4 < (a0.length : Int)))) rfl (p_lss rfl rfl rfl) ?_
  refine DL.nil ?_
  refine TT.seq (x:=sub [1,1,0,1,0,0,1,0] B36) (y:=sub [1,1,0,1,0,0,1,1] B36) ?_
  by_cases c71 : (decide (x13_4 < (a0.length : Int))) = true
  ·
   have h72:=ite_true c71 h
   refine TT.cond_true (x:=sub [1,1,0,1,0,0,1,0,0] B36) (y:=sub [1,1,0,1,0,0,1,0,1] B36) rfl c71 ?_
   refine TT.skip ?_
   refine TT.seq (x:=sub [1,1,0,1,0,0,1,1,0] B36) (y:=sub [1,1,0,1,0,0,1,1,1] B36) ?_
   refine TT.block (c:=sub [1,1,0,1,0,0,1,1,0,0] B36) ?_
   refine TT.seq (x:=sub [1,1,0,1,0,0,1,1,0,0,0] B36) (y:=sub [1,1,0,1,0,0,1,1,0,0,1] B36) ?_
   refine TT.rg [0,1] [kp,kp] rfl rfl ?_
   refine DL.mv 15 (.int .i64 x13_4) rfl rfl rfl ?_
   refine DL.pu 5 (.int .i64 x13_4) rfl (p_assign rfl rfl) ?_
   refine DL.nil ?_
   refine TT.seq (x:=sub [1,1,0,1,0,0,1,1,0,0,1,0] B36) (y:=sub [1,1,0,1,0,0,1,1,0,0,1,1] B36) ?_
   refine TT.rgD [0,1,2,3,4,5,6,7,8] [0,0,3,7,0,0,48,112,255] [kp,kp,kp,kp,kp,kp,kp,kp,kp] rfl mixed (by kernel_rfl) ?_
   intro w73 hl73 hj73 hz73
   refine DL.mv 16 (a0_v) rfl rfl rfl ?_
   refine DL.mv 17 (.int .i64 x13_4) rfl rfl rfl ?_
   obtain ⟨g74,h75⟩:=req_some h72
   obtain ⟨g76,h77⟩:=req_some h75
   refine DL.pu 18 (elp a0_v x13_4.toNat) rfl (p_slIx1 ty_u24 ty_s50 (RowV.some hr_a0 g74 g76) g74 g76 rfl rfl rfl) ?_
   refine DL.imm (v:=.int .u64 (a0.getD x13_4.toNat 0)) rfl (Wn.none rfl) rfl rfl rfl (i_loadEl (RowV.mono hr_a0 hE.mi) (encl_get .u64 (lt_len g74 g76)) ty_a50 rfl rfl) ?_
   refine DL.mv 20 (a1_v) rfl rfl rfl ?_
   refine DL.mv 21 (.int .i64 x13_4) rfl rfl rfl ?_
   obtain ⟨g78,h79⟩:=req_some h77
   refine DL.pu 22 (elp a1_v x13_4.toNat) rfl (p_slIx1 ty_u24 ty_s50 (RowV.some hr_a1 g74 g78) g74 g78 rfl rfl rfl) ?_
   refine DL.imm (v:=.int .u64 (a1.getD x13_4.toNat 0)) rfl (Wn.none rfl) rfl rfl rfl (i_loadEl (RowV.mono hr_a1 hE.mi) (encl_get .u64 (lt_len g74 g78)) ty_a50 rfl rfl) ?_
   obtain ⟨t80,e81,h82⟩:=nm_some h79
   refine DL.pu 24 (.bool t80) rfl (by rw [e81]; exact p_neq rfl rfl rfl) ?_
   refine DL.nil' hl73 ?_
   by_cases c83 : t80 = true
   ·
    have h84:=ite_true c83 h82
    refine TT.cond_true (x:=sub [1,1,0,1,0,0,1,1,0,0,1,1,0] B36) (y:=sub [1,1,0,1,0,0,1,1,0,0,1,1,1] B36) rfl c83 ?_
    refine TT.seq (x:=sub [1,1,0,1,0,0,1,1,0,0,1,1,0,0] B36) (y:=sub [1,1,0,1,0,0,1,1,0,0,1,1,0,1] B36) ?_
    refine TT.rg [0] [kp] rfl rfl ?_
    refine DL.pu 4 (.bool false) rfl (p_assign rfl rfl) ?_
    refine DL.nil ?_
    obtain rfl:=Option.some.inj h84
    have k85 : false = r:=hk
    subst k85
    exact retnE (rs:=[.tmp 4]) (vs:=[.bool false]) hE.base Tryd.func36 rfl rfl rfl (res_cons (ResV.tmp rfl) res_nil) rfl
   ·
    replace c83:=Bool.eq_false_iff.mpr c83
    have h86:=ite_false c83 h82
    refine TT.cond_false (x:=sub [1,1,0,1,0,0,1,1,0,0,1,1,0] B36) (y:=sub [1,1,0,1,0,0,1,1,0,0,1,1,1] B36) rfl c83 ?_
    refine TT.skip ?_
    refine TT.inBlock ?_
    refine TT.rg [0,1] [kp,kp] rfl rfl ?_
    refine DL.pu 25 (.int .i64 (IntKind.i64.wrap (x13_4 + 1))) rfl (p_add rfl rfl rfl) ?_
    refine DL.mv 13 (.int .i64 (IntKind.i64.wrap (x13_4 + 1))) rfl rfl rfl ?_
    refine DL.nil ?_
    refine TT.inLoop ?_
    exact TT.weak (ih (IntKind.i64.wrap (x13_4 + 1)) _ h86 hk) (Sub.cons rfl (Sub.cons rfl (Sub.cons rfl (Sub.cons rfl (Sub.nil _)))))
  ·
   replace c71:=Bool.eq_false_iff.mpr c71
   have h87:=ite_false c71 h
   refine TT.cond_false (x:=sub [1,1,0,1,0,0,1,0,0] B36) (y:=sub [1,1,0,1,0,0,1,0,1] B36) rfl c71 ?_
   refine TT.exit rfl ?_
   obtain rfl:=Option.some.inj h87
   exact TT.weak (hk) (Sub.nil _)

def slices_Equal_36.f (a0 : List Int) (a1 : List Int) : Option (Bool):=if ((a0.length : Int) != (a1.length : Int)) = true then (some false) else (onw (slices_Equal_36.L0 a0 a1 ((a0.length : Int).toNat + 1) 0) (fun _ => some true) (fun r => some r))
set_option maxRecDepth 20000 in
theorem slices_Equal_36.ok {a0 : List Int} {a1 : List Int} {a0_v : Value} {a1_v : Value} {r : Bool} (h : slices_Equal_36.f a0 a1 = some r) {M : Mem} (w : World) (hM : Ext M (heapOf w)) (hr_a0 : IntRow M .u64 a0_v a0) (hr_a1 : IntRow M .u64 a1_v a1) : Calls Tryd.prog 36 #[a0_v,a1_v] w (Post (fun u => u = .bool r) w):=by
 unfold slices_Equal_36.f at h
 have hE:=Env.start hM
 refine calls_of_TT (N:=26) (S:=[(0,a0_v),(1,a1_v)]) (c:=B36) Tryd.func36 rfl rfl rfl (by simp) ?_
 show TT _ _ _ _ _ _ [.code (sub [] B36)] _ _
 refine TT.seq (x:=sub [0] B36) (y:=sub [1] B36) ?_
 refine TT.rg [0] [kp] rfl rfl ?_
 refine DL.pu 4 (.bool false) rfl (p_assign rfl rfl) ?_
 refine DL.nil ?_
 refine TT.seq (x:=sub [1,0] B36) (y:=sub [1,1] B36) ?_
 refine TT.seq (x:=sub [1,0,0] B36) (y:=sub [1,0,1] B36) ?_
 refine TT.rg [0,1,2,3,4] [kp,kp,kp,kp,kp] rfl rfl ?_
 refine DL.mv 6 (a0_v) rfl rfl rfl ?_
 refine DL.pu 7 (.int .i64 (a0.length : Int)) rfl (p_slLen ty_u24 (RowV.sl hr_a0) rfl rfl) ?_
 refine DL.mv 8 (a1_v) rfl rfl rfl ?_
 refine DL.pu 9 (.int .i64 (a1.length : Int)) rfl (p_slLen ty_u24 (RowV.sl hr_a1) rfl rfl) ?_
 refine DL.pu 10 (.bool ((a0.length : Int) != (a1.length : Int))) rfl (p_neq rfl rfl rfl) ?_
 refine DL.nil ?_
 by_cases c1 : ((a0.length : Int) != (a1.length : Int)) = true
 ·
  have h2:=ite_true c1 h
  refine TT.cond_true (x:=sub [1,0,1,0] B36) (y:=sub [1,0,1,1] B36) rfl c1 ?_
  refine TT.seq (x:=sub [1,0,1,0,0] B36) (y:=sub [1,0,1,0,1] B36) ?_
  refine TT.rg [0] [kp] rfl rfl ?_
  refine DL.pu 4 (.bool false) rfl (p_assign rfl rfl) ?_
  refine DL.nil ?_
  obtain rfl:=Option.some.inj h2
  exact retnE (rs:=[.tmp 4]) (vs:=[.bool false]) hE.base Tryd.func36 rfl rfl rfl (res_cons (ResV.tmp rfl) res_nil) rfl
 ·
  replace c1:=Bool.eq_false_iff.mpr c1
  have h3:=ite_false c1 h
  refine TT.cond_false (x:=sub [1,0,1,0] B36) (y:=sub [1,0,1,1] B36) rfl c1 ?_
  refine TT.skip ?_
  refine TT.seq (x:=sub [1,1,0] B36) (y:=sub [1,1,1] B36) ?_
  refine TT.seq (x:=sub [1,1,0,0] B36) (y:=sub [1,1,0,1] B36) ?_
  refine TT.rg [0,1,2] [kp,kp,kp] rfl rfl ?_
  refine DL.mv 11 (a0_v) rfl rfl rfl ?_
  refine DL.pu 12 (.int .i64 (a0.length : Int)) rfl (p_slLen ty_u24 (RowV.sl hr_a0) rfl rfl) ?_
  refine DL.mv 13 (.int .i64 0) rfl rfl rfl ?_
  refine DL.nil ?_
  refine TT.block (c:=sub [1,1,0,1,0] B36) ?_
  refine TT.loop (c:=sub [1,1,0,1,0,0] B36) ?_
  rcases onw_some h3 with ⟨_,h88,h89⟩ | ⟨r91,h88,h89⟩
  ·
   refine TT.weak (slices_Equal_36.L0_ok a0 a0_v a1 a1_v hE hr_a0 hr_a1 ((a0.length : Int).toNat + 1) 0 (.inl ()) h88 (?_)) (Sub.cons rfl (Sub.cons rfl (Sub.cons rfl (Sub.cons rfl (Sub.nil _)))))
   show TT _ _ _ _ _ _ _ _ _
   refine TT.seq (x:=sub [1,1,1,0] B36) (y:=sub [1,1,1,1] B36) ?_
   refine TT.rg [0] [kp] rfl rfl ?_
   refine DL.pu 4 (.bool true) rfl (p_assign rfl rfl) ?_
   refine DL.nil ?_
   obtain rfl:=Option.some.inj h89
   exact retnE (rs:=[.tmp 4]) (vs:=[.bool true]) hE.base Tryd.func36 rfl rfl rfl (res_cons (ResV.tmp rfl) res_nil) rfl
  ·
   obtain rfl:=Option.some.inj h89
   exact TT.weak (slices_Equal_36.L0_ok a0 a0_v a1 a1_v hE hr_a0 hr_a1 ((a0.length : Int).toNat + 1) 0 (.inr r91) h88 rfl) (Sub.cons rfl (Sub.cons rfl (Sub.cons rfl (Sub.cons rfl (Sub.nil _)))))
theorem slices_Equal_36.val {a0 : List Int} {a1 : List Int} {a0_v : Value} {a1_v : Value} {r : Bool} (h : slices_Equal_36.f a0 a1 = some r) {M : Mem} (w : World) (hM : Ext M (heapOf w)) (hr_a0 : IntRow M .u64 a0_v a0) (hr_a1 : IntRow M .u64 a1_v a1) : Calls Tryd.prog 36 #[a0_v,a1_v] w fun e w' => e = .returned (.bool r) ∧ Below w.heap.size w w' :=
 calls_value (slices_Equal_36.ok h w hM hr_a0 hr_a1)

/-! ### escutcheon/escutcheonref13.tag: function 46 -/
noncomputable def B46 : Code:=bodyOf Tryd.f46
def ref13_tag.f (a0 : Der) : Option (Int):=(if (decide ((Der.kind a0) < 1)) = true then (some true) else (nm (decide (([0,1,2,3,4,6,12,48,160,49,24].length : Int) ≤ (Der.kind a0))) fun t12 => some t12)).bind fun q5 => if q5 = true then (some 0) else (if ((Der.kind a0) == 8) = true then (nm (IntKind.i64.wrap (160 + (Int.tmod (Der.num a0) 31))) fun t20 => some t20) else (req (0 ≤ (Der.kind a0)) (req ((Der.kind a0) < ([0,1,2,3,4,6,12,48,160,49,24].length : Int)) (some ([0,1,2,3,4,6,12,48,160,49,24].getD ((Der.kind a0).toNat) 0)))))
set_option maxRecDepth 20000 in
theorem ref13_tag.ok {a0 : Der} {a0_3 : Value} {a0_5 : Value} {a0_6 : Value} {r : Int} (h : ref13_tag.f a0 = some r) {M : Mem} (w : World) (hM : Ext M (heapOf w)) (hr_a0_3 : IntRow M .u8 a0_3 (Der.bytes a0)) (hr_a0_5 : IntRow M .u64 a0_5 (Der.arcs a0)) (hr_a0_6 : RowS ShDer M a0_6 (Tree.kids a0)) : Calls Tryd.prog 46 #[.agg (Der.ce a0 a0_3 a0_5 a0_6)] w (Post (fun u => u = .int .i64 r) w):=by
 unfold ref13_tag.f at h
 have hE:=Env.start hM
 refine calls_of_TT (N:=27) (S:=[(0,.agg (Der.ce a0 a0_3 a0_5 a0_6))]) (c:=B46) Tryd.func46 rfl rfl rfl (by simp) ?_
 show TT _ _ _ _ _ _ [.code (sub [] B46)] _ _
 refine TT.seq (x:=sub [0] B46) (y:=sub [1] B46) ?_
 refine TT.rg [0,1] [(.alloc,none),kp] rfl rfl ?_
 refine DL.new (ob:=.cells ((Der.ce a0 a0_3 a0_5 a0_6)) 27) (mk:=fun b => ptr b 0) (i:=0) rfl (Wn.none rfl) rfl rfl rfl (f_box (v:=.agg (Der.ce a0 a0_3 a0_5 a0_6)) rfl rfl) ?_
 intro b1 hb1
 refine DL.pu 2 (.int .i64 0) rfl (p_assign rfl rfl) ?_
 refine DL.nil ?_
 refine TT.seq (x:=sub [1,0] B46) (y:=sub [1,1] B46) ?_
 refine TT.rg [0,1] [(.alloc,none),kp] rfl rfl ?_
 refine DL.newSl (zs:=[0,1,2,3,4,6,12,48,160,49,24]) (n:=11) rfl (by decide) (i:=0) rfl (Wn.none rfl) rfl rfl rfl (f_buildSl (n:=11) (zs:=[0,1,2,3,4,6,12,48,160,49,24]) (vs:=[(0,.int .i64 0),(1,.int .i64 1),(2,.int .i64 2),(3,.int .i64 3),(4,.int .i64 4),(5,.int .i64 6),(6,.int .i64 12),(7,.int .i64 48),(8,.int .i64 160),(9,.int .i64 49),(10,.int .i64 24)]) elem86 rfl rfl (by kernel_rfl) rfl (args_val2 rfl)) ?_
 intro s3_v s3_c ho_s3
 refine DL.pu 3 (s3_v) rfl (p_assign rfl rfl) ?_
 refine DL.nil ?_
 refine TT.seq (x:=sub [1,1,0] B46) (y:=sub [1,1,1] B46) ?_
 refine TT.seq (x:=sub [1,1,0,0] B46) (y:=sub [1,1,0,1] B46) ?_
 refine TT.rg [0,1,2,3,4,5,6,7,8,9] [kp,kq,kp,kp,kp,kq,kp,kp,kp,kp] rfl rfl ?_
 refine DL.pu 5 (ptr b1 0) rfl (p_fieldAddr ty_f27_0 rfl rfl) ?_
 refine DL.qu 6 (.int .i64 (Der.kind a0)) rfl (f_load (j:=1) ty_a22 rfl rfl rfl rfl) ?_
 refine DL.pu 7 (.bool (decide ((Der.kind a0) < 1))) rfl (p_lss rfl rfl rfl) ?_
 refine DL.mv 8 (.bool (decide ((Der.kind a0) < 1))) rfl rfl rfl ?_
 obtain ⟨q5,h6,h7⟩:=bind_some h
 refine DL.cut [(1,ptr b1 0),(3,s3_v),(14,.bool q5)] [] ?_ (fun J8 => ?_)
 ·
  refine DL.nil ?_
  by_cases c15 : q5 = true
  ·
   have h16:=ite_true c15 h7
   refine TT.cond_true (x:=sub [1,1,0,1,0] B46) (y:=sub [1,1,0,1,1] B46) rfl c15 ?_
   refine TT.seq (x:=sub [1,1,0,1,0,0] B46) (y:=sub [1,1,0,1,0,1] B46) ?_
   refine TT.rg [0] [kp] rfl rfl ?_
   refine DL.pu 2 (.int .i64 0) rfl (p_assign rfl rfl) ?_
   refine DL.nil ?_
   obtain rfl:=Option.some.inj h16
   exact retnE (rs:=[.tmp 2]) (vs:=[.int .i64 0]) hE.base Tryd.func46 rfl rfl rfl (res_cons (ResV.tmp rfl) res_nil) rfl
  ·
   replace c15:=Bool.eq_false_iff.mpr c15
   have h17:=ite_false c15 h7
   refine TT.cond_false (x:=sub [1,1,0,1,0] B46) (y:=sub [1,1,0,1,1] B46) rfl c15 ?_
   refine TT.skip ?_
   refine TT.seq (x:=sub [1,1,1,0] B46) (y:=sub [1,1,1,1] B46) ?_
   refine TT.seq (x:=sub [1,1,1,0,0] B46) (y:=sub [1,1,1,0,1] B46) ?_
   refine TT.rg [0,1,2] [kp,kq,kp] rfl rfl ?_
   refine DL.pu 15 (ptr b1 0) rfl (p_fieldAddr ty_f27_0 rfl rfl) ?_
   refine DL.qu 16 (.int .i64 (Der.kind a0)) rfl (f_load (j:=1) ty_a22 rfl rfl rfl rfl) ?_
   refine DL.pu 17 (.bool ((Der.kind a0) == 8)) rfl (p_eql rfl rfl rfl) ?_
   refine DL.nil ?_
   by_cases c18 : ((Der.kind a0) == 8) = true
   ·
    have h19:=ite_true c18 h17
    refine TT.cond_true (x:=sub [1,1,1,0,1,0] B46) (y:=sub [1,1,1,0,1,1] B46) rfl c18 ?_
    refine TT.seq (x:=sub [1,1,1,0,1,0,0] B46) (y:=sub [1,1,1,0,1,0,1] B46) ?_
    refine TT.rg [0,1,2,3,4] [kp,kq,kp,kp,kp] rfl rfl ?_
    refine DL.pu 18 (ptr b1 2) rfl (p_fieldAddr ty_f27_2 rfl rfl) ?_
    refine DL.qu 19 (.int .i64 (Der.num a0)) rfl (f_load (j:=1) ty_a2 rfl rfl rfl rfl) ?_
    refine DL.pu 20 (.int .i64 (Int.tmod (Der.num a0) 31)) rfl (p_rem (by decide) rfl rfl rfl) ?_
    obtain ⟨t20,e21,h22⟩:=nm_some h19
    refine DL.pu 21 (.int .i64 t20) rfl (by rw [e21]; exact p_add rfl rfl rfl) ?_
    refine DL.pu 2 (.int .i64 t20) rfl (p_assign rfl rfl) ?_
    refine DL.nil ?_
    obtain rfl:=Option.some.inj h22
    exact retnE (rs:=[.tmp 2]) (vs:=[.int .i64 t20]) hE.base Tryd.func46 rfl rfl rfl (res_cons (ResV.tmp rfl) res_nil) rfl
   ·
    replace c18:=Bool.eq_false_iff.mpr c18
    have h23:=ite_false c18 h17
    refine TT.cond_false (x:=sub [1,1,1,0,1,0] B46) (y:=sub [1,1,1,0,1,1] B46) rfl c18 ?_
    refine TT.skip ?_
    refine TT.seq (x:=sub [1,1,1,1,0] B46) (y:=sub [1,1,1,1,1] B46) ?_
    refine TT.rg [0,1,2,3,4,5] [kp,kp,kq,kp,kq,kp] rfl rfl ?_
    refine DL.mv 22 (s3_v) rfl rfl rfl ?_
    refine DL.pu 23 (ptr b1 0) rfl (p_fieldAddr ty_f27_0 rfl rfl) ?_
    refine DL.qu 24 (.int .i64 (Der.kind a0)) rfl (f_load (j:=1) ty_a22 rfl rfl rfl rfl) ?_
    obtain ⟨g24,h25⟩:=req_some h23
    obtain ⟨g26,h27⟩:=req_some h25
    refine DL.pu 25 (elp s3_v ((Der.kind a0).toNat)) rfl (p_slIx1 ty_u86 ty_s3 (OwnV.some ho_s3 g24 g26) g24 g26 rfl rfl rfl) ?_
    refine DL.qu 26 (.int .i64 ([0,1,2,3,4,6,12,48,160,49,24].getD ((Der.kind a0).toNat) 0)) rfl (f_loadEl (i:=0) rfl ho_s3 (encl_get .i64 (lt_len g24 g26)) ty_a3 rfl rfl) ?_
    refine DL.pu 2 (.int .i64 ([0,1,2,3,4,6,12,48,160,49,24].getD ((Der.kind a0).toNat) 0)) rfl (p_assign rfl rfl) ?_
    refine DL.nil ?_
    obtain rfl:=Option.some.inj h27
    exact retnE (rs:=[.tmp 2]) (vs:=[.int .i64 ([0,1,2,3,4,6,12,48,160,49,24].getD ((Der.kind a0).toNat) 0)]) hE.base Tryd.func46 rfl rfl rfl (res_cons (ResV.tmp rfl) res_nil) rfl
 ·
  by_cases c9 : (decide ((Der.kind a0) < 1)) = true
  ·
   have h10:=ite_true c9 h6
   refine DL.not (i:=4) rfl (Wn.yes c9 rfl rfl rfl rfl) rfl rfl ?_
   refine DL.not (i:=5) rfl (Wn.yes c9 rfl rfl rfl rfl) rfl rfl ?_
   refine DL.not (i:=6) rfl (Wn.yes c9 rfl rfl rfl rfl) rfl rfl ?_
   refine DL.not (i:=7) rfl (Wn.yes c9 rfl rfl rfl rfl) rfl rfl ?_
   refine DL.not (i:=8) rfl (Wn.yes c9 rfl rfl rfl rfl) rfl rfl ?_
   refine DL.pu 14 (.bool true) rfl (p_pick_t c9 rfl rfl rfl) ?_
   obtain rfl:=Option.some.inj h10
   exact DL.weak J8 (Sub.cons rfl (Sub.cons rfl (Sub.cons rfl (Sub.nil _))))
  ·
   replace c9:=Bool.eq_false_iff.mpr c9
   have h11:=ite_false c9 h6
   refine DL.pure (v:=ptr b1 0) rfl (Wn.no c9 rfl rfl rfl rfl) rfl rfl rfl (p_fieldAddr ty_f27_0 rfl rfl) ?_
   refine DL.quiet (v:=.int .i64 (Der.kind a0)) rfl (Wn.no c9 rfl rfl rfl rfl) rfl rfl rfl (f_load (j:=1) ty_a22 rfl rfl rfl rfl) ?_
   refine DL.pure (v:=s3_v) rfl (Wn.no c9 rfl rfl rfl rfl) rfl rfl rfl (p_move rfl rfl) ?_
   refine DL.pure (v:=.int .i64 ([0,1,2,3,4,6,12,48,160,49,24].length : Int)) rfl (Wn.no c9 rfl rfl rfl rfl) rfl rfl rfl (p_slLen ty_u86 (OwnV.sl ho_s3) rfl rfl) ?_
   obtain ⟨t12,e13,h14⟩:=nm_some h11
   refine DL.pure (v:=.bool t12) rfl (Wn.no c9 rfl rfl rfl rfl) rfl rfl rfl (by rw [e13]; exact p_geq rfl rfl rfl) ?_
   refine DL.pu 14 (.bool t12) rfl (p_pick_f c9 rfl rfl rfl) ?_
   obtain rfl:=Option.some.inj h14
   exact DL.weak J8 (Sub.cons rfl (Sub.cons rfl (Sub.cons rfl (Sub.nil _))))
theorem ref13_tag.val {a0 : Der} {a0_3 : Value} {a0_5 : Value} {a0_6 : Value} {r : Int} (h : ref13_tag.f a0 = some r) {M : Mem} (w : World) (hM : Ext M (heapOf w)) (hr_a0_3 : IntRow M .u8 a0_3 (Der.bytes a0)) (hr_a0_5 : IntRow M .u64 a0_5 (Der.arcs a0)) (hr_a0_6 : RowS ShDer M a0_6 (Tree.kids a0)) : Calls Tryd.prog 46 #[.agg (Der.ce a0 a0_3 a0_5 a0_6)] w fun e w' => e = .returned (.int .i64 r) ∧ Below w.heap.size w w' :=
 calls_value (ref13_tag.ok h w hM hr_a0_3 hr_a0_5 hr_a0_6)

/-! ### escutcheon/der.bare: function 47 -/
noncomputable def B47 : Code:=bodyOf Tryd.f47
def der_bare.f (a0 : Der) : Option (Der):=if ((Der.kind a0) == 1) = true then (some (Der.mk (Der.kind a0) (Der.flag a0) 0 ([] : List Int) ([] : List UInt8) ([] : List Int) ([] : List Der))) else ((if ((Der.kind a0) == 3) = true then (some ((Der.kind a0) == 3)) else (some ((Der.kind a0) == 4))).bind fun j11_8 => if j11_8 = true then (some (Der.mk (Der.kind a0) false 0 (Der.bytes a0) ([] : List UInt8) ([] : List Int) ([] : List Der))) else (if ((Der.kind a0) == 5) = true then (some (Der.mk (Der.kind a0) false 0 ([] : List Int) ([] : List UInt8) (Der.arcs a0) ([] : List Der))) else ((if ((Der.kind a0) == 6) = true then (some ((Der.kind a0) == 6)) else (some ((Der.kind a0) == 10))).bind fun j16_22 => if j16_22 = true then (some (Der.mk (Der.kind a0) false 0 ([] : List Int) (Der.text a0) ([] : List Int) ([] : List Der))) else (if ((Der.kind a0) == 8) = true then (some (Der.mk (Der.kind a0) false (Der.num a0) ([] : List Int) ([] : List UInt8) ([] : List Int) (Tree.kids a0))) else ((if ((Der.kind a0) == 7) = true then (some ((Der.kind a0) == 7)) else (some ((Der.kind a0) == 9))).bind fun j21_36 => if j21_36 = true then (some (Der.mk (Der.kind a0) false 0 ([] : List Int) ([] : List UInt8) ([] : List Int) (Tree.kids a0))) else (if ((Der.kind a0) == 2) = true then (some (Der.mk (Der.kind a0) false (Der.num a0) ([] : List Int) ([] : List UInt8) ([] : List Int) ([] : List Der))) else (some (Der.mk (Der.kind a0) false 0 ([] : List Int) ([] : List UInt8) ([] : List Int) ([] : List Der)))))))))
set_option maxRecDepth 20000 in
theorem der_bare.ok {a0 : Der} {a0_3 : Value} {a0_5 : Value} {a0_6 : Value} {r : Der} (h : der_bare.f a0 = some r) {M : Mem} (w : World) (hM : Ext M (heapOf w)) (hr_a0_3 : IntRow M .u8 a0_3 (Der.bytes a0)) (hr_a0_5 : IntRow M .u64 a0_5 (Der.arcs a0)) (hr_a0_6 : RowS ShDer M a0_6 (Tree.kids a0)) : Calls Tryd.prog 47 #[.agg (Der.ce a0 a0_3 a0_5 a0_6)] w (PostF (G:=Value × Value × Value) (fun g => .agg (Der.ce r (g.1) (g.2.1) (g.2.2))) (fun g M_ => (IntRow M_ .u8 (g.1) (Der.bytes r)) ∧ (IntRow M_ .u64 (g.2.1) (Der.arcs r)) ∧ (RowS ShDer M_ (g.2.2) (Tree.kids r))) M w):=by
 unfold der_bare.f at h
 have hE:=Env.start hM
 refine calls_of_TT (N:=48) (S:=[(0,.agg (Der.ce a0 a0_3 a0_5 a0_6))]) (c:=B47) Tryd.func47 rfl rfl rfl (by simp) ?_
 show TT _ _ _ _ _ _ [.code (sub [] B47)] _ _
 refine TT.seq (x:=sub [0] B47) (y:=sub [1] B47) ?_
 refine TT.rg [0,1] [(.alloc,none),(.alloc,none)] rfl rfl ?_
 refine DL.new (ob:=.cells ((Der.ce a0 a0_3 a0_5 a0_6)) 27) (mk:=fun b => ptr b 0) (i:=0) rfl (Wn.none rfl) rfl rfl rfl (f_box (v:=.agg (Der.ce a0 a0_3 a0_5 a0_6)) rfl rfl) ?_
 intro b1 hb1
 refine DL.new (ob:=.cells (#[.int .i64 0,.bool false,.int .i64 0,(.slice none 0 0),str ([] : List UInt8),(.slice none 0 0),(.slice none 0 0)]) 27) (mk:=fun b => ptr b 0) (i:=1) rfl (Wn.none rfl) rfl rfl rfl (f_alloc ty_z27 rfl) ?_
 intro b2 hb2
 refine DL.nil ?_
 refine TT.seq (x:=sub [1,0] B47) (y:=sub [1,1] B47) ?_
 refine TT.rg [0,1,2,3,4] [kp,kq,kp,(.alloc,none),(.store,none)] rfl rfl ?_
 refine DL.pu 4 (ptr b1 0) rfl (p_fieldAddr ty_f27_0 rfl rfl) ?_
 refine DL.qu 5 (.int .i64 (Der.kind a0)) rfl (f_load (j:=1) ty_a22 rfl rfl rfl rfl) ?_
 refine DL.pu 6 (.agg #[.int .i64 (Der.kind a0),.bool false,.int .i64 0,(.slice none 0 0),str ([] : List UInt8),(.slice none 0 0),(.slice none 0 0)]) rfl (p_build (vs:=[(0,.int .i64 (Der.kind a0))]) (fun w => by kernel_rfl) rfl rfl) ?_
 refine DL.new (ob:=.cells (#[.int .i64 0,.bool false,.int .i64 0,(.slice none 0 0),str ([] : List UInt8),(.slice none 0 0),(.slice none 0 0)]) 27) (mk:=fun b => ptr b 0) (i:=3) rfl (Wn.none rfl) rfl rfl rfl (f_alloc ty_z27 rfl) ?_
 intro b3 hb3
 refine DL.put (H':=[(some b3,.cells (#[.int .i64 (Der.kind a0),.bool false,.int .i64 0,(.slice none 0 0),str ([] : List UInt8),(.slice none 0 0),(.slice none 0 0)]) 27 (0,0)),(some b2,.cells (#[.int .i64 0,.bool false,.int .i64 0,(.slice none 0 0),str ([] : List UInt8),(.slice none 0 0),(.slice none 0 0)]) 27 (0,0)),(some b1,.cells ((Der.ce a0 a0_3 a0_5 a0_6)) 27 (0,0))]) (i:=4) rfl (Wn.none rfl) rfl rfl (f_storeA (j:=0) ty_s27 rfl rfl rfl (one_cons trivial (one_cons trivial (one_cons trivial (one_cons (sl_one (RowV.sl (IntRow.nil .u8 M))) (one_cons trivial (one_cons (sl_one (RowV.sl (IntRow.nil .u64 M))) (one_cons (sl_one (RowS.sl (RowS.nil ShDer M))) one_nil))))))) rfl rfl rfl) (keep_none rfl) ?_
 refine DL.nil ?_
 refine TT.seq (x:=sub [1,1,0] B47) (y:=sub [1,1,1] B47) ?_
 refine TT.seq (x:=sub [1,1,0,0] B47) (y:=sub [1,1,0,1] B47) ?_
 refine TT.rg [0,1] [kp,kq] rfl rfl ?_
 refine DL.pu 7 (ptr b1 0) rfl (p_fieldAddr ty_f27_0 rfl rfl) ?_
 refine DL.qu 8 (.int .i64 (Der.kind a0)) rfl (f_load (j:=2) ty_a22 rfl rfl rfl rfl) ?_
 refine DL.nil ?_
 refine TT.block (c:=sub [1,1,0,1,0] B47) ?_
 refine TT.seq (x:=sub [1,1,0,1,0,0] B47) (y:=sub [1,1,0,1,0,1] B47) ?_
 refine TT.block (c:=sub [1,1,0,1,0,0,0] B47) ?_
 refine TT.seq (x:=sub [1,1,0,1,0,0,0,0] B47) (y:=sub [1,1,0,1,0,0,0,1] B47) ?_
 refine TT.block (c:=sub [1,1,0,1,0,0,0,0,0] B47) ?_
 refine TT.seq (x:=sub [1,1,0,1,0,0,0,0,0,0] B47) (y:=sub [1,1,0,1,0,0,0,0,0,1] B47) ?_
 refine TT.block (c:=sub [1,1,0,1,0,0,0,0,0,0,0] B47) ?_
 refine TT.seq (x:=sub [1,1,0,1,0,0,0,0,0,0,0,0] B47) (y:=sub [1,1,0,1,0,0,0,0,0,0,0,1] B47) ?_
 refine TT.block (c:=sub [1,1,0,1,0,0,0,0,0,0,0,0,0] B47) ?_
 refine TT.seq (x:=sub [1,1,0,1,0,0,0,0,0,0,0,0,0,0] B47) (y:=sub [1,1,0,1,0,0,0,0,0,0,0,0,0,1] B47) ?_
 refine TT.block (c:=sub [1,1,0,1,0,0,0,0,0,0,0,0,0,0,0] B47) ?_
 refine TT.seq (x:=sub [1,1,0,1,0,0,0,0,0,0,0,0,0,0,0,0] B47) (y:=sub [1,1,0,1,0,0,0,0,0,0,0,0,0,0,0,1] B47) ?_
 refine TT.block (c:=sub [1,1,0,1,0,0,0,0,0,0,0,0,0,0,0,0,0] B47) ?_
 refine TT.seq (x:=sub [1,1,0,1,0,0,0,0,0,0,0,0,0,0,0,0,0,0] B47) (y:=sub [1,1,0,1,0,0,0,0,0,0,0,0,0,0,0,0,0,1] B47) ?_
 refine TT.block (c:=sub [1,1,0,1,0,0,0,0,0,0,0,0,0,0,0,0,0,0,0] B47) ?_
 refine TT.seq (x:=sub [1,1,0,1,0,0,0,0,0,0,0,0,0,0,0,0,0,0,0,0] B47) (y:=sub [1,1,0,1,0,0,0,0,0,0,0,0,0,0,0,0,0,0,0,1] B47) ?_
 refine TT.seq (x:=sub [1,1,0,1,0,0,0,0,0,0,0,0,0,0,0,0,0,0,0,0,0] B47) (y:=sub [1,1,0,1,0,0,0,0,0,0,0,0,0,0,0,0,0,0,0,0,1] B47) ?_
 refine TT.seq (x:=sub [1,1,0,1,0,0,0,0,0,0,0,0,0,0,0,0,0,0,0,0,0,0] B47) (y:=sub [1,1,0,1,0,0,0,0,0,0,0,0,0,0,0,0,0,0,0,0,0,1] B47) ?_
 refine TT.rg [0,1] [kp,kp] rfl rfl ?_
 refine DL.pu 10 (.bool ((Der.kind a0) == 1)) rfl (p_eql rfl rfl rfl) ?_
 refine DL.pu 9 (.bool ((Der.kind a0) == 1)) rfl (p_assign rfl rfl) ?_
 refine DL.nil ?_
 by_cases c4 : ((Der.kind a0) == 1) = true
 ·
  have h5:=ite_true c4 h
  refine TT.cond_true (x:=sub [1,1,0,1,0,0,0,0,0,0,0,0,0,0,0,0,0,0,0,0,0,1,0] B47) (y:=sub [1,1,0,1,0,0,0,0,0,0,0,0,0,0,0,0,0,0,0,0,0,1,1] B47) rfl c4 ?_
  refine TT.exit rfl ?_
  refine TT.seq (x:=sub [1,1,0,1,0,0,0,0,0,0,0,0,0,0,0,0,0,1,0] B47) (y:=sub [1,1,0,1,0,0,0,0,0,0,0,0,0,0,0,0,0,1,1] B47) ?_
  refine TT.rg [0,1,2,3] [kp,kq,kp,(.store,none)] rfl rfl ?_
  refine DL.pu 26 (ptr b1 1) rfl (p_fieldAddr ty_f27_1 rfl rfl) ?_
  refine DL.qu 27 (.bool (Der.flag a0)) rfl (f_load (j:=2) ty_a4 rfl rfl rfl rfl) ?_
  refine DL.pu 28 (ptr b3 1) rfl (p_fieldAddr ty_f27_1 rfl rfl) ?_
  refine DL.put (H':=[(some b3,.cells (#[.int .i64 (Der.kind a0),.bool (Der.flag a0),.int .i64 0,(.slice none 0 0),str ([] : List UInt8),(.slice none 0 0),(.slice none 0 0)]) 27 (0,0)),(some b2,.cells (#[.int .i64 0,.bool false,.int .i64 0,(.slice none 0 0),str ([] : List UInt8),(.slice none 0 0),(.slice none 0 0)]) 27 (0,0)),(some b1,.cells ((Der.ce a0 a0_3 a0_5 a0_6)) 27 (0,0))]) (i:=3) rfl (Wn.none rfl) rfl rfl (f_store (c:=#[.int .i64 (Der.kind a0),.bool false,.int .i64 0,(.slice none 0 0),str ([] : List UInt8),(.slice none 0 0),(.slice none 0 0)]) (v:=.bool (Der.flag a0)) (off:=1) (j:=0) ty_s4 rfl rfl (of_decide_eq_true rfl) trivial rfl rfl rfl) (keep_none rfl) ?_
  refine DL.nil ?_
  refine TT.exit rfl ?_
  refine TT.seq (x:=sub [1,1,1,0] B47) (y:=sub [1,1,1,1] B47) ?_
  refine TT.rg [0,1] [kq,(.store,none)] rfl rfl ?_
  refine DL.qu 47 (.agg #[.int .i64 (Der.kind a0),.bool (Der.flag a0),.int .i64 0,(.slice none 0 0),str ([] : List UInt8),(.slice none 0 0),(.slice none 0 0)]) rfl (f_loadA (j:=0) ty_a27 ty_s27 rfl rfl rfl rfl) ?_
  refine DL.put (H':=[(some b3,.cells (#[.int .i64 (Der.kind a0),.bool (Der.flag a0),.int .i64 0,(.slice none 0 0),str ([] : List UInt8),(.slice none 0 0),(.slice none 0 0)]) 27 (0,0)),(some b2,.cells (#[.int .i64 (Der.kind a0),.bool (Der.flag a0),.int .i64 0,(.slice none 0 0),str ([] : List UInt8),(.slice none 0 0),(.slice none 0 0)]) 27 (0,0)),(some b1,.cells ((Der.ce a0 a0_3 a0_5 a0_6)) 27 (0,0))]) (i:=1) rfl (Wn.none rfl) rfl rfl (f_storeA (j:=1) ty_s27 rfl rfl rfl (one_cons trivial (one_cons trivial (one_cons trivial (one_cons (sl_one (RowV.sl (IntRow.nil .u8 M))) (one_cons trivial (one_cons (sl_one (RowV.sl (IntRow.nil .u64 M))) (one_cons (sl_one (RowS.sl (RowS.nil ShDer M))) one_nil))))))) rfl rfl rfl) (keep_none rfl) ?_
  refine DL.nil ?_
  obtain rfl:=Option.some.inj h5
  exact retF (rs:=[.cell 2 27]) (vs:=[.agg #[.int .i64 (Der.kind a0),.bool (Der.flag a0),.int .i64 0,(.slice none 0 0),str ([] : List UInt8),(.slice none 0 0),(.slice none 0 0)]]) ((.slice none 0 0),(.slice none 0 0),(.slice none 0 0)) hE Tryd.func47 rfl rfl rfl (res_cons (ResV.cell (j:=1) ty_a27 ty_s27 rfl rfl rfl) res_nil) ⟨(IntRow.nil .u8 M),(IntRow.nil .u64 M),(RowS.nil ShDer M)⟩
 ·
  replace c4:=Bool.eq_false_iff.mpr c4
  have h6:=ite_false c4 h
  refine TT.cond_false (x:=sub [1,1,0,1,0,0,0,0,0,0,0,0,0,0,0,0,0,0,0,0,0,1,0] B47) (y:=sub [1,1,0,1,0,0,0,0,0,0,0,0,0,0,0,0,0,0,0,0,0,1,1] B47) rfl c4 ?_
  refine TT.skip ?_
  refine TT.seq (x:=sub [1,1,0,1,0,0,0,0,0,0,0,0,0,0,0,0,0,0,0,0,1,0] B47) (y:=sub [1,1,0,1,0,0,0,0,0,0,0,0,0,0,0,0,0,0,0,0,1,1] B47) ?_
  refine TT.seq (x:=sub [1,1,0,1,0,0,0,0,0,0,0,0,0,0,0,0,0,0,0,0,1,0,0] B47) (y:=sub [1,1,0,1,0,0,0,0,0,0,0,0,0,0,0,0,0,0,0,0,1,0,1] B47) ?_
  refine TT.seq (x:=sub [1,1,0,1,0,0,0,0,0,0,0,0,0,0,0,0,0,0,0,0,1,0,0,0] B47) (y:=sub [1,1,0,1,0,0,0,0,0,0,0,0,0,0,0,0,0,0,0,0,1,0,0,1] B47) ?_
  refine TT.rg [0,1] [kp,kp] rfl rfl ?_
  refine DL.pu 12 (.bool ((Der.kind a0) == 3)) rfl (p_eql rfl rfl rfl) ?_
  refine DL.pu 11 (.bool ((Der.kind a0) == 3)) rfl (p_assign rfl rfl) ?_
  refine DL.nil ?_
  obtain ⟨j11_8,h9,h10⟩:=bind_some h6
  have J11 : TT Tryd.prog 47 (PostF (G:=Value × Value × Value) (fun g => .agg (Der.ce r (g.1) (g.2.1) (g.2.2))) (fun g M_ => (IntRow M_ .u8 (g.1) (Der.bytes r)) ∧ (IntRow M_ .u64 (g.2.1) (Der.arcs r)) ∧ (RowS ShDer M_ (g.2.2) (Tree.kids r))) M w) 48 w (heapOf w) (.code (sub [1,1,0,1,0,0,0,0,0,0,0,0,0,0,0,0,0,0,0,0,1,0,1] B47) :: .code (sub [1,1,0,1,0,0,0,0,0,0,0,0,0,0,0,0,0,0,0,0,1,1] B47) :: .code (sub [1,1,0,1,0,0,0,0,0,0,0,0,0,0,0,0,0,0,0,1] B47) :: .inBlock 1 :: .code (sub [1,1,0,1,0,0,0,0,0,0,0,0,0,0,0,0,0,1] B47) :: .inBlock 2 :: .code (sub [1,1,0,1,0,0,0,0,0,0,0,0,0,0,0,1] B47) :: .inBlock 3 :: .code (sub [1,1,0,1,0,0,0,0,0,0,0,0,0,1] B47) :: .inBlock 4 :: .code (sub [1,1,0,1,0,0,0,0,0,0,0,1] B47) :: .inBlock 5 :: .code (sub [1,1,0,1,0,0,0,0,0,1] B47) :: .inBlock 6 :: .code (sub [1,1,0,1,0,0,0,1] B47) :: .inBlock 7 :: .code (sub [1,1,0,1,0,1] B47) :: .inBlock 0 :: .code (sub [1,1,1] B47) :: []) [(1,ptr b1 0),(2,ptr b2 0),(3,ptr b3 0),(8,.int .i64 (Der.kind a0)),(11,.bool j11_8)] [(some b3,.cells (#[.int .i64 (Der.kind a0),.bool false,.int .i64 0,(.slice none 0 0),str ([] : List UInt8),(.slice none 0 0),(.slice none 0 0)]) 27 (0,0)),(some b2,.cells (#[.int .i64 0,.bool false,.int .i64 0,(.slice none 0 0),str ([] : List UInt8),(.slice none 0 0),(.slice none 0 0)]) 27 (0,0)),(some b1,.cells ((Der.ce a0 a0_3 a0_5 a0_6)) 27 (0,0))]:=by
   by_cases c15 : j11_8 = true
   ·
    have h16:=ite_true c15 h10
    refine TT.cond_true (x:=sub [1,1,0,1,0,0,0,0,0,0,0,0,0,0,0,0,0,0,0,0,1,0,1,0] B47) (y:=sub [1,1,0,1,0,0,0,0,0,0,0,0,0,0,0,0,0,0,0,0,1,0,1,1] B47) rfl c15 ?_
    refine TT.exit rfl ?_
    refine TT.seq (x:=sub [1,1,0,1,0,0,0,0,0,0,0,0,0,0,0,1,0] B47) (y:=sub [1,1,0,1,0,0,0,0,0,0,0,0,0,0,0,1,1] B47) ?_
    refine TT.rg [0,1,2,3] [kp,kq,kp,(.store,none)] rfl rfl ?_
    refine DL.pu 29 (ptr b1 3) rfl (p_fieldAddr ty_f27_3 rfl rfl) ?_
    refine DL.qu 30 (a0_3) rfl (f_load (j:=2) ty_a23 rfl rfl rfl rfl) ?_
    refine DL.pu 31 (ptr b3 3) rfl (p_fieldAddr ty_f27_3 rfl rfl) ?_
    refine DL.put (H':=[(some b3,.cells (#[.int .i64 (Der.kind a0),.bool false,.int .i64 0,a0_3,str ([] : List UInt8),(.slice none 0 0),(.slice none 0 0)]) 27 (0,0)),(some b2,.cells (#[.int .i64 0,.bool false,.int .i64 0,(.slice none 0 0),str ([] : List UInt8),(.slice none 0 0),(.slice none 0 0)]) 27 (0,0)),(some b1,.cells ((Der.ce a0 a0_3 a0_5 a0_6)) 27 (0,0))]) (i:=3) rfl (Wn.none rfl) rfl rfl (f_store (c:=#[.int .i64 (Der.kind a0),.bool false,.int .i64 0,(.slice none 0 0),str ([] : List UInt8),(.slice none 0 0),(.slice none 0 0)]) (v:=a0_3) (off:=3) (j:=0) ty_s23 rfl (sl_cells (RowV.sl hr_a0_3)) (of_decide_eq_true rfl) (sl_one (RowV.sl hr_a0_3)) rfl rfl rfl) (keep_none rfl) ?_
    refine DL.nil ?_
    refine TT.exit rfl ?_
    refine TT.seq (x:=sub [1,1,1,0] B47) (y:=sub [1,1,1,1] B47) ?_
    refine TT.rg [0,1] [kq,(.store,none)] rfl rfl ?_
    refine DL.qu 47 (.agg #[.int .i64 (Der.kind a0),.bool false,.int .i64 0,a0_3,str ([] : List UInt8),(.slice none 0 0),(.slice none 0 0)]) rfl (f_loadA (j:=0) ty_a27 ty_s27 rfl rfl rfl rfl) ?_
    refine DL.put (H':=[(some b3,.cells (#[.int .i64 (Der.kind a0),.bool false,.int .i64 0,a0_3,str ([] : List UInt8),(.slice none 0 0),(.slice none 0 0)]) 27 (0,0)),(some b2,.cells (#[.int .i64 (Der.kind a0),.bool false,.int .i64 0,a0_3,str ([] : List UInt8),(.slice none 0 0),(.slice none 0 0)]) 27 (0,0)),(some b1,.cells ((Der.ce a0 a0_3 a0_5 a0_6)) 27 (0,0))]) (i:=1) rfl (Wn.none rfl) rfl rfl (f_storeA (j:=1) ty_s27 rfl rfl rfl (one_cons trivial (one_cons trivial (one_cons trivial (one_cons (sl_one (RowV.sl hr_a0_3)) (one_cons trivial (one_cons (sl_one (RowV.sl (IntRow.nil .u64 M))) (one_cons (sl_one (RowS.sl (RowS.nil ShDer M))) one_nil))))))) rfl rfl rfl) (keep_none rfl) ?_
    refine DL.nil ?_
    obtain rfl:=Option.some.inj h16
    exact retF (rs:=[.cell 2 27]) (vs:=[.agg #[.int .i64 (Der.kind a0),.bool false,.int .i64 0,a0_3,str ([] : List UInt8),(.slice none 0 0),(.slice none 0 0)]]) (a0_3,(.slice none 0 0),(.slice none 0 0)) hE Tryd.func47 rfl rfl rfl (res_cons (ResV.cell (j:=1) ty_a27 ty_s27 rfl rfl rfl) res_nil) ⟨hr_a0_3,(IntRow.nil .u64 M),(RowS.nil ShDer M)⟩
   ·
    replace c15:=Bool.eq_false_iff.mpr c15
    have h17:=ite_false c15 h10
    refine TT.cond_false (x:=sub [1,1,0,1,0,0,0,0,0,0,0,0,0,0,0,0,0,0,0,0,1,0,1,0] B47) (y:=sub [1,1,0,1,0,0,0,0,0,0,0,0,0,0,0,0,0,0,0,0,1,0,1,1] B47) rfl c15 ?_
    refine TT.skip ?_
    refine TT.seq (x:=sub [1,1,0,1,0,0,0,0,0,0,0,0,0,0,0,0,0,0,0,0,1,1,0] B47) (y:=sub [1,1,0,1,0,0,0,0,0,0,0,0,0,0,0,0,0,0,0,0,1,1,1] B47) ?_
    refine TT.seq (x:=sub [1,1,0,1,0,0,0,0,0,0,0,0,0,0,0,0,0,0,0,0,1,1,0,0] B47) (y:=sub [1,1,0,1,0,0,0,0,0,0,0,0,0,0,0,0,0,0,0,0,1,1,0,1] B47) ?_
    refine TT.rg [0,1] [kp,kp] rfl rfl ?_
    refine DL.pu 15 (.bool ((Der.kind a0) == 5)) rfl (p_eql rfl rfl rfl) ?_
    refine DL.pu 14 (.bool ((Der.kind a0) == 5)) rfl (p_assign rfl rfl) ?_
    refine DL.nil ?_
    by_cases c18 : ((Der.kind a0) == 5) = true
    ·
     have h19:=ite_true c18 h17
     refine TT.cond_true (x:=sub [1,1,0,1,0,0,0,0,0,0,0,0,0,0,0,0,0,0,0,0,1,1,0,1,0] B47) (y:=sub [1,1,0,1,0,0,0,0,0,0,0,0,0,0,0,0,0,0,0,0,1,1,0,1,1] B47) rfl c18 ?_
     refine TT.exit rfl ?_
     refine TT.seq (x:=sub [1,1,0,1,0,0,0,0,0,0,0,0,0,1,0] B47) (y:=sub [1,1,0,1,0,0,0,0,0,0,0,0,0,1,1] B47) ?_
     refine TT.rg [0,1,2,3] [kp,kq,kp,(.store,none)] rfl rfl ?_
     refine DL.pu 32 (ptr b1 5) rfl (p_fieldAddr ty_f27_5 rfl rfl) ?_
     refine DL.qu 33 (a0_5) rfl (f_load (j:=2) ty_a24 rfl rfl rfl rfl) ?_
     refine DL.pu 34 (ptr b3 5) rfl (p_fieldAddr ty_f27_5 rfl rfl) ?_
     refine DL.put (H':=[(some b3,.cells (#[.int .i64 (Der.kind a0),.bool false,.int .i64 0,(.slice none 0 0),str ([] : List UInt8),a0_5,(.slice none 0 0)]) 27 (0,0)),(some b2,.cells (#[.int .i64 0,.bool false,.int .i64 0,(.slice none 0 0),str ([] : List UInt8),(.slice none 0 0),(.slice none 0 0)]) 27 (0,0)),(some b1,.cells ((Der.ce a0 a0_3 a0_5 a0_6)) 27 (0,0))]) (i:=3) rfl (Wn.none rfl) rfl rfl (f_store (c:=#[.int .i64 (Der.kind a0),.bool false,.int .i64 0,(.slice none 0 0),str ([] : List UInt8),(.slice none 0 0),(.slice none 0 0)]) (v:=a0_5) (off:=5) (j:=0) ty_s24 rfl (sl_cells (RowV.sl hr_a0_5)) (of_decide_eq_true rfl) (sl_one (RowV.sl hr_a0_5)) rfl rfl rfl) (keep_none rfl) ?_
     refine DL.nil ?_
     refine TT.exit rfl ?_
     refine TT.seq (x:=sub [1,1,1,0] B47) (y:=sub [1,1,1,1] B47) ?_
     refine TT.rg [0,1] [kq,(.store,none)] rfl rfl ?_
     refine DL.qu 47 (.agg #[.int .i64 (Der.kind a0),.bool false,.int .i64 0,(.slice none 0 0),str ([] : List UInt8),a0_5,(.slice none 0 0)]) rfl (f_loadA (j:=0) ty_a27 ty_s27 rfl rfl rfl rfl) ?_
     refine DL.put (H':=[(some b3,.cells (#[.int .i64 (Der.kind a0),.bool false,.int .i64 0,(.slice none 0 0),str ([] : List UInt8),a0_5,(.slice none 0 0)]) 27 (0,0)),(some b2,.cells (#[.int .i64 (Der.kind a0),.bool false,.int .i64 0,(.slice none 0 0),str ([] : List UInt8),a0_5,(.slice none 0 0)]) 27 (0,0)),(some b1,.cells ((Der.ce a0 a0_3 a0_5 a0_6)) 27 (0,0))]) (i:=1) rfl (Wn.none rfl) rfl rfl (f_storeA (j:=1) ty_s27 rfl rfl rfl (one_cons trivial (one_cons trivial (one_cons trivial (one_cons (sl_one (RowV.sl (IntRow.nil .u8 M))) (one_cons trivial (one_cons (sl_one (RowV.sl hr_a0_5)) (one_cons (sl_one (RowS.sl (RowS.nil ShDer M))) one_nil))))))) rfl rfl rfl) (keep_none rfl) ?_
     refine DL.nil ?_
     obtain rfl:=Option.some.inj h19
     exact retF (rs:=[.cell 2 27]) (vs:=[.agg #[.int .i64 (Der.kind a0),.bool false,.int .i64 0,(.slice none 0 0),str ([] : List UInt8),a0_5,(.slice none 0 0)]]) ((.slice none 0 0),a0_5,(.slice none 0 0)) hE Tryd.func47 rfl rfl rfl (res_cons (ResV.cell (j:=1) ty_a27 ty_s27 rfl rfl rfl) res_nil) ⟨(IntRow.nil .u8 M),hr_a0_5,(RowS.nil ShDer M)⟩
    ·
     replace c18:=Bool.eq_false_iff.mpr c18
     have h20:=ite_false c18 h17
     refine TT.cond_false (x:=sub [1,1,0,1,0,0,0,0,0,0,0,0,0,0,0,0,0,0,0,0,1,1,0,1,0] B47) (y:=sub [1,1,0,1,0,0,0,0,0,0,0,0,0,0,0,0,0,0,0,0,1,1,0,1,1] B47) rfl c18 ?_
     refine TT.skip ?_
     refine TT.seq (x:=sub [1,1,0,1,0,0,0,0,0,0,0,0,0,0,0,0,0,0,0,0,1,1,1,0] B47) (y:=sub [1,1,0,1,0,0,0,0,0,0,0,0,0,0,0,0,0,0,0,0,1,1,1,1] B47) ?_
     refine TT.seq (x:=sub [1,1,0,1,0,0,0,0,0,0,0,0,0,0,0,0,0,0,0,0,1,1,1,0,0] B47) (y:=sub [1,1,0,1,0,0,0,0,0,0,0,0,0,0,0,0,0,0,0,0,1,1,1,0,1] B47) ?_
     refine TT.seq (x:=sub [1,1,0,1,0,0,0,0,0,0,0,0,0,0,0,0,0,0,0,0,1,1,1,0,0,0] B47) (y:=sub [1,1,0,1,0,0,0,0,0,0,0,0,0,0,0,0,0,0,0,0,1,1,1,0,0,1] B47) ?_
     refine TT.rg [0,1] [kp,kp] rfl rfl ?_
     refine DL.pu 17 (.bool ((Der.kind a0) == 6)) rfl (p_eql rfl rfl rfl) ?_
     refine DL.pu 16 (.bool ((Der.kind a0) == 6)) rfl (p_assign rfl rfl) ?_
     refine DL.nil ?_
     obtain ⟨j16_22,h23,h24⟩:=bind_some h20
     have J25 : TT Tryd.prog 47 (PostF (G:=Value × Value × Value) (fun g => .agg (Der.ce r (g.1) (g.2.1) (g.2.2))) (fun g M_ => (IntRow M_ .u8 (g.1) (Der.bytes r)) ∧ (IntRow M_ .u64 (g.2.1) (Der.arcs r)) ∧ (RowS ShDer M_ (g.2.2) (Tree.kids r))) M w) 48 w (heapOf w) (.code (sub [1,1,0,1,0,0,0,0,0,0,0,0,0,0,0,0,0,0,0,0,1,1,1,0,1] B47) :: .code (sub [1,1,0,1,0,0,0,0,0,0,0,0,0,0,0,0,0,0,0,0,1,1,1,1] B47) :: .code (sub [1,1,0,1,0,0,0,0,0,0,0,0,0,0,0,0,0,0,0,1] B47) :: .inBlock 1 :: .code (sub [1,1,0,1,0,0,0,0,0,0,0,0,0,0,0,0,0,1] B47) :: .inBlock 2 :: .code (sub [1,1,0,1,0,0,0,0,0,0,0,0,0,0,0,1] B47) :: .inBlock 3 :: .code (sub [1,1,0,1,0,0,0,0,0,0,0,0,0,1] B47) :: .inBlock 4 :: .code (sub [1,1,0,1,0,0,0,0,0,0,0,1] B47) :: .inBlock 5 :: .code (sub [1,1,0,1,0,0,0,0,0,1] B47) :: .inBlock 6 :: .code (sub [1,1,0,1,0,0,0,1] B47) :: .inBlock 7 :: .code (sub [1,1,0,1,0,1] B47) :: .inBlock 0 :: .code (sub [1,1,1] B47) :: []) [(1,ptr b1 0),(2,ptr b2 0),(3,ptr b3 0),(8,.int .i64 (Der.kind a0)),(16,.bool j16_22)] [(some b3,.cells (#[.int .i64 (Der.kind a0),.bool false,.int .i64 0,(.slice none 0 0),str ([] : List UInt8),(.slice none 0 0),(.slice none 0 0)]) 27 (0,0)),(some b2,.cells (#[.int .i64 0,.bool false,.int .i64 0,(.slice none 0 0),str ([] : List UInt8),(.slice none 0 0),(.slice none 0 0)]) 27 (0,0)),(some b1,.cells ((Der.ce a0 a0_3 a0_5 a0_6)) 27 (0,0))]:=by
      by_cases c29 : j16_22 = true
      ·
       have h30:=ite_true c29 h24
       refine TT.cond_true (x:=sub [1,1,0,1,0,0,0,0,0,0,0,0,0,0,0,0,0,0,0,0,1,1,1,0,1,0] B47) (y:=sub [1,1,0,1,0,0,0,0,0,0,0,0,0,0,0,0,0,0,0,0,1,1,1,0,1,1] B47) rfl c29 ?_
       refine TT.exit rfl ?_
       refine TT.seq (x:=sub [1,1,0,1,0,0,0,0,0,0,0,1,0] B47) (y:=sub [1,1,0,1,0,0,0,0,0,0,0,1,1] B47) ?_
       refine TT.rg [0,1,2,3] [kp,kq,kp,(.store,none)] rfl rfl ?_
       refine DL.pu 35 (ptr b1 4) rfl (p_fieldAddr ty_f27_4 rfl rfl) ?_
       refine DL.qu 36 (str (Der.text a0)) rfl (f_load (j:=2) ty_a9 rfl rfl rfl rfl) ?_
       refine DL.pu 37 (ptr b3 4) rfl (p_fieldAddr ty_f27_4 rfl rfl) ?_
       refine DL.put (H':=[(some b3,.cells (#[.int .i64 (Der.kind a0),.bool false,.int .i64 0,(.slice none 0 0),str (Der.text a0),(.slice none 0 0),(.slice none 0 0)]) 27 (0,0)),(some b2,.cells (#[.int .i64 0,.bool false,.int .i64 0,(.slice none 0 0),str ([] : List UInt8),(.slice none 0 0),(.slice none 0 0)]) 27 (0,0)),(some b1,.cells ((Der.ce a0 a0_3 a0_5 a0_6)) 27 (0,0))]) (i:=3) rfl (Wn.none rfl) rfl rfl (f_store (c:=#[.int .i64 (Der.kind a0),.bool false,.int .i64 0,(.slice none 0 0),str ([] : List UInt8),(.slice none 0 0),(.slice none 0 0)]) (v:=str (Der.text a0)) (off:=4) (j:=0) ty_s9 rfl rfl (of_decide_eq_true rfl) trivial rfl rfl rfl) (keep_none rfl) ?_
       refine DL.nil ?_
       refine TT.exit rfl ?_
       refine TT.seq (x:=sub [1,1,1,0] B47) (y:=sub [1,1,1,1] B47) ?_
       refine TT.rg [0,1] [kq,(.store,none)] rfl rfl ?_
       refine DL.qu 47 (.agg #[.int .i64 (Der.kind a0),.bool false,.int .i64 0,(.slice none 0 0),str (Der.text a0),(.slice none 0 0),(.slice none 0 0)]) rfl (f_loadA (j:=0) ty_a27 ty_s27 rfl rfl rfl rfl) ?_
       refine DL.put (H':=[(some b3,.cells (#[.int .i64 (Der.kind a0),.bool false,.int .i64 0,(.slice none 0 0),str (Der.text a0),(.slice none 0 0),(.slice none 0 0)]) 27 (0,0)),(some b2,.cells (#[.int .i64 (Der.kind a0),.bool false,.int .i64 0,(.slice none 0 0),str (Der.text a0),(.slice none 0 0),(.slice none 0 0)]) 27 (0,0)),(some b1,.cells ((Der.ce a0 a0_3 a0_5 a0_6)) 27 (0,0))]) (i:=1) rfl (Wn.none rfl) rfl rfl (f_storeA (j:=1) ty_s27 rfl rfl rfl (one_cons trivial (one_cons trivial (one_cons trivial (one_cons (sl_one (RowV.sl (IntRow.nil .u8 M))) (one_cons trivial (one_cons (sl_one (RowV.sl (IntRow.nil .u64 M))) (one_cons (sl_one (RowS.sl (RowS.nil ShDer M))) one_nil))))))) rfl rfl rfl) (keep_none rfl) ?_
       refine DL.nil ?_
       obtain rfl:=Option.some.inj h30
       exact retF (rs:=[.cell 2 27]) (vs:=[.agg #[.int .i64 (Der.kind a0),.bool false,.int .i64 0,(.slice none 0 0),str (Der.text a0),(.slice none 0 0),(.slice none 0 0)]]) ((.slice none 0 0),(.slice none 0 0),(.slice none 0 0)) hE Tryd.func47 rfl rfl rfl (res_cons (ResV.cell (j:=1) ty_a27 ty_s27 rfl rfl rfl) res_nil) ⟨(IntRow.nil .u8 M),(IntRow.nil .u64 M),(RowS.nil ShDer M)⟩
      ·
       replace c29:=Bool.eq_false_iff.mpr c29
       have h31:=ite_false c29 h24
       refine TT.cond_false (x:=sub [1,1,0,1,0,0,0,0,0,0,0,0,0,0,0,0,0,0,0,0,1,1,1,0,1,0] B47) (y:=sub [1,1,0,1,0,0,0,0,0,0,0,0,0,0,0,0,0,0,0,0,1,1,1,0,1,1] B47) rfl c29 ?_
       refine TT.skip ?_
       refine TT.seq (x:=sub [1,1,0,1,0,0,0,0,0,0,0,0,0,0,0,0,0,0,0,0,1,1,1,1,0] B47) (y:=sub [1,1,0,1,0,0,0,0,0,0,0,0,0,0,0,0,0,0,0,0,1,1,1,1,1] B47) ?_
       refine TT.seq (x:=sub [1,1,0,1,0,0,0,0,0,0,0,0,0,0,0,0,0,0,0,0,1,1,1,1,0,0] B47) (y:=sub [1,1,0,1,0,0,0,0,0,0,0,0,0,0,0,0,0,0,0,0,1,1,1,1,0,1] B47) ?_
       refine TT.rg [0,1] [kp,kp] rfl rfl ?_
       refine DL.pu 20 (.bool ((Der.kind a0) == 8)) rfl (p_eql rfl rfl rfl) ?_
       refine DL.pu 19 (.bool ((Der.kind a0) == 8)) rfl (p_assign rfl rfl) ?_
       refine DL.nil ?_
       by_cases c32 : ((Der.kind a0) == 8) = true
       ·
        have h33:=ite_true c32 h31
        refine TT.cond_true (x:=sub [1,1,0,1,0,0,0,0,0,0,0,0,0,0,0,0,0,0,0,0,1,1,1,1,0,1,0] B47) (y:=sub [1,1,0,1,0,0,0,0,0,0,0,0,0,0,0,0,0,0,0,0,1,1,1,1,0,1,1] B47) rfl c32 ?_
        refine TT.exit rfl ?_
        refine TT.rg [0,1,2,3] [kp,kq,kp,(.store,none)] rfl rfl ?_
        refine DL.pu 38 (ptr b1 2) rfl (p_fieldAddr ty_f27_2 rfl rfl) ?_
        refine DL.qu 39 (.int .i64 (Der.num a0)) rfl (f_load (j:=2) ty_a2 rfl rfl rfl rfl) ?_
        refine DL.pu 40 (ptr b3 2) rfl (p_fieldAddr ty_f27_2 rfl rfl) ?_
        refine DL.put (H':=[(some b3,.cells (#[.int .i64 (Der.kind a0),.bool false,.int .i64 (Der.num a0),(.slice none 0 0),str ([] : List UInt8),(.slice none 0 0),(.slice none 0 0)]) 27 (0,0)),(some b2,.cells (#[.int .i64 0,.bool false,.int .i64 0,(.slice none 0 0),str ([] : List UInt8),(.slice none 0 0),(.slice none 0 0)]) 27 (0,0)),(some b1,.cells ((Der.ce a0 a0_3 a0_5 a0_6)) 27 (0,0))]) (i:=3) rfl (Wn.none rfl) rfl rfl (f_store (c:=#[.int .i64 (Der.kind a0),.bool false,.int .i64 0,(.slice none 0 0),str ([] : List UInt8),(.slice none 0 0),(.slice none 0 0)]) (v:=.int .i64 (Der.num a0)) (off:=2) (j:=0) ty_s2 rfl rfl (of_decide_eq_true rfl) trivial rfl rfl rfl) (keep_none rfl) ?_
        refine DL.nil ?_
        refine TT.inBlock ?_
        refine TT.seq (x:=sub [1,1,0,1,0,0,0,1,0] B47) (y:=sub [1,1,0,1,0,0,0,1,1] B47) ?_
        refine TT.rg [0,1,2,3] [kp,kq,kp,(.store,none)] rfl rfl ?_
        refine DL.pu 41 (ptr b1 6) rfl (p_fieldAddr ty_f27_6 rfl rfl) ?_
        refine DL.qu 42 (a0_6) rfl (f_load (j:=2) ty_a25 rfl rfl rfl rfl) ?_
        refine DL.pu 43 (ptr b3 6) rfl (p_fieldAddr ty_f27_6 rfl rfl) ?_
        refine DL.put (H':=[(some b3,.cells (#[.int .i64 (Der.kind a0),.bool false,.int .i64 (Der.num a0),(.slice none 0 0),str ([] : List UInt8),(.slice none 0 0),a0_6]) 27 (0,0)),(some b2,.cells (#[.int .i64 0,.bool false,.int .i64 0,(.slice none 0 0),str ([] : List UInt8),(.slice none 0 0),(.slice none 0 0)]) 27 (0,0)),(some b1,.cells ((Der.ce a0 a0_3 a0_5 a0_6)) 27 (0,0))]) (i:=3) rfl (Wn.none rfl) rfl rfl (f_store (c:=#[.int .i64 (Der.kind a0),.bool false,.int .i64 (Der.num a0),(.slice none 0 0),str ([] : List UInt8),(.slice none 0 0),(.slice none 0 0)]) (v:=a0_6) (off:=6) (j:=0) ty_s25 rfl (sl_cells (RowS.sl hr_a0_6)) (of_decide_eq_true rfl) (sl_one (RowS.sl hr_a0_6)) rfl rfl rfl) (keep_none rfl) ?_
        refine DL.nil ?_
        refine TT.exit rfl ?_
        refine TT.seq (x:=sub [1,1,1,0] B47) (y:=sub [1,1,1,1] B47) ?_
        refine TT.rg [0,1] [kq,(.store,none)] rfl rfl ?_
        refine DL.qu 47 (.agg #[.int .i64 (Der.kind a0),.bool false,.int .i64 (Der.num a0),(.slice none 0 0),str ([] : List UInt8),(.slice none 0 0),a0_6]) rfl (f_loadA (j:=0) ty_a27 ty_s27 rfl rfl rfl rfl) ?_
        refine DL.put (H':=[(some b3,.cells (#[.int .i64 (Der.kind a0),.bool false,.int .i64 (Der.num a0),(.slice none 0 0),str ([] : List UInt8),(.slice none 0 0),a0_6]) 27 (0,0)),(some b2,.cells (#[.int .i64 (Der.kind a0),.bool false,.int .i64 (Der.num a0),(.slice none 0 0),str ([] : List UInt8),(.slice none 0 0),a0_6]) 27 (0,0)),(some b1,.cells ((Der.ce a0 a0_3 a0_5 a0_6)) 27 (0,0))]) (i:=1) rfl (Wn.none rfl) rfl rfl (f_storeA (j:=1) ty_s27 rfl rfl rfl (one_cons trivial (one_cons trivial (one_cons trivial (one_cons (sl_one (RowV.sl (IntRow.nil .u8 M))) (one_cons trivial (one_cons (sl_one (RowV.sl (IntRow.nil .u64 M))) (one_cons (sl_one (RowS.sl hr_a0_6)) one_nil))))))) rfl rfl rfl) (keep_none rfl) ?_
        refine DL.nil ?_
        obtain rfl:=Option.some.inj h33
        exact retF (rs:=[.cell 2 27]) (vs:=[.agg #[.int .i64 (Der.kind a0),.bool false,.int .i64 (Der.num a0),(.slice none 0 0),str ([] : List UInt8),(.slice none 0 0),a0_6]]) ((.slice none 0 0),(.slice none 0 0),a0_6) hE Tryd.func47 rfl rfl rfl (res_cons (ResV.cell (j:=1) ty_a27 ty_s27 rfl rfl rfl) res_nil) ⟨(IntRow.nil .u8 M),(IntRow.nil .u64 M),hr_a0_6⟩
       ·
        replace c32:=Bool.eq_false_iff.mpr c32
        have h34:=ite_false c32 h31
        refine TT.cond_false (x:=sub [1,1,0,1,0,0,0,0,0,0,0,0,0,0,0,0,0,0,0,0,1,1,1,1,0,1,0] B47) (y:=sub [1,1,0,1,0,0,0,0,0,0,0,0,0,0,0,0,0,0,0,0,1,1,1,1,0,1,1] B47) rfl c32 ?_
        refine TT.skip ?_
        refine TT.seq (x:=sub [1,1,0,1,0,0,0,0,0,0,0,0,0,0,0,0,0,0,0,0,1,1,1,1,1,0] B47) (y:=sub [1,1,0,1,0,0,0,0,0,0,0,0,0,0,0,0,0,0,0,0,1,1,1,1,1,1] B47) ?_
        refine TT.seq (x:=sub [1,1,0,1,0,0,0,0,0,0,0,0,0,0,0,0,0,0,0,0,1,1,1,1,1,0,0] B47) (y:=sub [1,1,0,1,0,0,0,0,0,0,0,0,0,0,0,0,0,0,0,0,1,1,1,1,1,0,1] B47) ?_
        refine TT.seq (x:=sub [1,1,0,1,0,0,0,0,0,0,0,0,0,0,0,0,0,0,0,0,1,1,1,1,1,0,0,0] B47) (y:=sub [1,1,0,1,0,0,0,0,0,0,0,0,0,0,0,0,0,0,0,0,1,1,1,1,1,0,0,1] B47) ?_
        refine TT.rg [0,1] [kp,kp] rfl rfl ?_
        refine DL.pu 22 (.bool ((Der.kind a0) == 7)) rfl (p_eql rfl rfl rfl) ?_
        refine DL.pu 21 (.bool ((Der.kind a0) == 7)) rfl (p_assign rfl rfl) ?_
        refine DL.nil ?_
        obtain ⟨j21_36,h37,h38⟩:=bind_some h34
        have J39 : TT Tryd.prog 47 (PostF (G:=Value × Value × Value) (fun g => .agg (Der.ce r (g.1) (g.2.1) (g.2.2))) (fun g M_ => (IntRow M_ .u8 (g.1) (Der.bytes r)) ∧ (IntRow M_ .u64 (g.2.1) (Der.arcs r)) ∧ (RowS ShDer M_ (g.2.2) (Tree.kids r))) M w) 48 w (heapOf w) (.code (sub [1,1,0,1,0,0,0,0,0,0,0,0,0,0,0,0,0,0,0,0,1,1,1,1,1,0,1] B47) :: .code (sub [1,1,0,1,0,0,0,0,0,0,0,0,0,0,0,0,0,0,0,0,1,1,1,1,1,1] B47) :: .code (sub [1,1,0,1,0,0,0,0,0,0,0,0,0,0,0,0,0,0,0,1] B47) :: .inBlock 1 :: .code (sub [1,1,0,1,0,0,0,0,0,0,0,0,0,0,0,0,0,1] B47) :: .inBlock 2 :: .code (sub [1,1,0,1,0,0,0,0,0,0,0,0,0,0,0,1] B47) :: .inBlock 3 :: .code (sub [1,1,0,1,0,0,0,0,0,0,0,0,0,1] B47) :: .inBlock 4 :: .code (sub [1,1,0,1,0,0,0,0,0,0,0,1] B47) :: .inBlock 5 :: .code (sub [1,1,0,1,0,0,0,0,0,1] B47) :: .inBlock 6 :: .code (sub [1,1,0,1,0,0,0,1] B47) :: .inBlock 7 :: .code (sub [1,1,0,1,0,1] B47) :: .inBlock 0 :: .code (sub [1,1,1] B47) :: []) [(1,ptr b1 0),(2,ptr b2 0),(3,ptr b3 0),(8,.int .i64 (Der.kind a0)),(21,.bool j21_36)] [(some b3,.cells (#[.int .i64 (Der.kind a0),.bool false,.int .i64 0,(.slice none 0 0),str ([] : List UInt8),(.slice none 0 0),(.slice none 0 0)]) 27 (0,0)),(some b2,.cells (#[.int .i64 0,.bool false,.int .i64 0,(.slice none 0 0),str ([] : List UInt8),(.slice none 0 0),(.slice none 0 0)]) 27 (0,0)),(some b1,.cells ((Der.ce a0 a0_3 a0_5 a0_6)) 27 (0,0))]:=by
         by_cases c43 : j21_36 = true
         ·
          have h44:=ite_true c43 h38
          refine TT.cond_true (x:=sub [1,1,0,1,0,0,0,0,0,0,0,0,0,0,0,0,0,0,0,0,1,1,1,1,1,0,1,0] B47) (y:=sub [1,1,0,1,0,0,0,0,0,0,0,0,0,0,0,0,0,0,0,0,1,1,1,1,1,0,1,1] B47) rfl c43 ?_
          refine TT.exit rfl ?_
          refine TT.seq (x:=sub [1,1,0,1,0,0,0,1,0] B47) (y:=sub [1,1,0,1,0,0,0,1,1] B47) ?_
          refine TT.rg [0,1,2,3] [kp,kq,kp,(.store,none)] rfl rfl ?_
          refine DL.pu 41 (ptr b1 6) rfl (p_fieldAddr ty_f27_6 rfl rfl) ?_
          refine DL.qu 42 (a0_6) rfl (f_load (j:=2) ty_a25 rfl rfl rfl rfl) ?_
          refine DL.pu 43 (ptr b3 6) rfl (p_fieldAddr ty_f27_6 rfl rfl) ?_
          refine DL.put (H':=[(some b3,.cells (#[.int .i64 (Der.kind a0),.bool false,.int .i64 0,(.slice none 0 0),str ([] : List UInt8),(.slice none 0 0),a0_6]) 27 (0,0)),(some b2,.cells (#[.int .i64 0,.bool false,.int .i64 0,(.slice none 0 0),str ([] : List UInt8),(.slice none 0 0),(.slice none 0 0)]) 27 (0,0)),(some b1,.cells ((Der.ce a0 a0_3 a0_5 a0_6)) 27 (0,0))]) (i:=3) rfl (Wn.none rfl) rfl rfl (f_store (c:=#[.int .i64 (Der.kind a0),.bool false,.int .i64 0,(.slice none 0 0),str ([] : List UInt8),(.slice none 0 0),(.slice none 0 0)]) (v:=a0_6) (off:=6) (j:=0) ty_s25 rfl (sl_cells (RowS.sl hr_a0_6)) (of_decide_eq_true rfl) (sl_one (RowS.sl hr_a0_6)) rfl rfl rfl) (keep_none rfl) ?_
          refine DL.nil ?_
          refine TT.exit rfl ?_
          refine TT.seq (x:=sub [1,1,1,0] B47) (y:=sub [1,1,1,1] B47) ?_
          refine TT.rg [0,1] [kq,(.store,none)] rfl rfl ?_
          refine DL.qu 47 (.agg #[.int .i64 (Der.kind a0),.bool false,.int .i64 0,(.slice none 0 0),str ([] : List UInt8),(.slice none 0 0),a0_6]) rfl (f_loadA (j:=0) ty_a27 ty_s27 rfl rfl rfl rfl) ?_
          refine DL.put (H':=[(some b3,.cells (#[.int .i64 (Der.kind a0),.bool false,.int .i64 0,(.slice none 0 0),str ([] : List UInt8),(.slice none 0 0),a0_6]) 27 (0,0)),(some b2,.cells (#[.int .i64 (Der.kind a0),.bool false,.int .i64 0,(.slice none 0 0),str ([] : List UInt8),(.slice none 0 0),a0_6]) 27 (0,0)),(some b1,.cells ((Der.ce a0 a0_3 a0_5 a0_6)) 27 (0,0))]) (i:=1) rfl (Wn.none rfl) rfl rfl (f_storeA (j:=1) ty_s27 rfl rfl rfl (one_cons trivial (one_cons trivial (one_cons trivial (one_cons (sl_one (RowV.sl (IntRow.nil .u8 M))) (one_cons trivial (one_cons (sl_one (RowV.sl (IntRow.nil .u64 M))) (one_cons (sl_one (RowS.sl hr_a0_6)) one_nil))))))) rfl rfl rfl) (keep_none rfl) ?_
          refine DL.nil ?_
          obtain rfl:=Option.some.inj h44
          exact retF (rs:=[.cell 2 27]) (vs:=[.agg #[.int .i64 (Der.kind a0),.bool false,.int .i64 0,(.slice none 0 0),str ([] : List UInt8),(.slice none 0 0),a0_6]]) ((.slice none 0 0),(.slice none 0 0),a0_6) hE Tryd.func47 rfl rfl rfl (res_cons (ResV.cell (j:=1) ty_a27 ty_s27 rfl rfl rfl) res_nil) ⟨(IntRow.nil .u8 M),(IntRow.nil .u64 M),hr_a0_6⟩
         ·
          replace c43:=Bool.eq_false_iff.mpr c43
          have h45:=ite_false c43 h38
          refine TT.cond_false (x:=sub [1,1,0,1,0,0,0,0,0,0,0,0,0,0,0,0,0,0,0,0,1,1,1,1,1,0,1,0] B47) (y:=sub [1,1,0,1,0,0,0,0,0,0,0,0,0,0,0,0,0,0,0,0,1,1,1,1,1,0,1,1] B47) rfl c43 ?_
          refine TT.skip ?_
          refine TT.seq (x:=sub [1,1,0,1,0,0,0,0,0,0,0,0,0,0,0,0,0,0,0,0,1,1,1,1,1,1,0] B47) (y:=sub [1,1,0,1,0,0,0,0,0,0,0,0,0,0,0,0,0,0,0,0,1,1,1,1,1,1,1] B47) ?_
          refine TT.rg [0,1] [kp,kp] rfl rfl ?_
          refine DL.pu 25 (.bool ((Der.kind a0) == 2)) rfl (p_eql rfl rfl rfl) ?_
          refine DL.pu 24 (.bool ((Der.kind a0) == 2)) rfl (p_assign rfl rfl) ?_
          refine DL.nil ?_
          by_cases c46 : ((Der.kind a0) == 2) = true
          ·
           have h47:=ite_true c46 h45
           refine TT.cond_true (x:=sub [1,1,0,1,0,0,0,0,0,0,0,0,0,0,0,0,0,0,0,0,1,1,1,1,1,1,1,0] B47) (y:=sub [1,1,0,1,0,0,0,0,0,0,0,0,0,0,0,0,0,0,0,0,1,1,1,1,1,1,1,1] B47) rfl c46 ?_
           refine TT.exit rfl ?_
           refine TT.seq (x:=sub [1,1,0,1,0,1,0] B47) (y:=sub [1,1,0,1,0,1,1] B47) ?_
           refine TT.rg [0,1,2,3] [kp,kq,kp,(.store,none)] rfl rfl ?_
           refine DL.pu 44 (ptr b1 2) rfl (p_fieldAddr ty_f27_2 rfl rfl) ?_
           refine DL.qu 45 (.int .i64 (Der.num a0)) rfl (f_load (j:=2) ty_a2 rfl rfl rfl rfl) ?_
           refine DL.pu 46 (ptr b3 2) rfl (p_fieldAddr ty_f27_2 rfl rfl) ?_
           refine DL.put (H':=[(some b3,.cells (#[.int .i64 (Der.kind a0),.bool false,.int .i64 (Der.num a0),(.slice none 0 0),str ([] : List UInt8),(.slice none 0 0),(.slice none 0 0)]) 27 (0,0)),(some b2,.cells (#[.int .i64 0,.bool false,.int .i64 0,(.slice none 0 0),str ([] : List UInt8),(.slice none 0 0),(.slice none 0 0)]) 27 (0,0)),(some b1,.cells ((Der.ce a0 a0_3 a0_5 a0_6)) 27 (0,0))]) (i:=3) rfl (Wn.none rfl) rfl rfl (f_store (c:=#[.int .i64 (Der.kind a0),.bool false,.int .i64 0,(.slice none 0 0),str ([] : List UInt8),(.slice none 0 0),(.slice none 0 0)]) (v:=.int .i64 (Der.num a0)) (off:=2) (j:=0) ty_s2 rfl rfl (of_decide_eq_true rfl) trivial rfl rfl rfl) (keep_none rfl) ?_
           refine DL.nil ?_
           refine TT.exit rfl ?_
           refine TT.seq (x:=sub [1,1,1,0] B47) (y:=sub [1,1,1,1] B47) ?_
           refine TT.rg [0,1] [kq,(.store,none)] rfl rfl ?_
           refine DL.qu 47 (.agg #[.int .i64 (Der.kind a0),.bool false,.int .i64 (Der.num a0),(.slice none 0 0),str ([] : List UInt8),(.slice none 0 0),(.slice none 0 0)]) rfl (f_loadA (j:=0) ty_a27 ty_s27 rfl rfl rfl rfl) ?_
           refine DL.put (H':=[(some b3,.cells (#[.int .i64 (Der.kind a0),.bool false,.int .i64 (Der.num a0),(.slice none 0 0),str ([] : List UInt8),(.slice none 0 0),(.slice none 0 0)]) 27 (0,0)),(some b2,.cells (#[.int .i64 (Der.kind a0),.bool false,.int .i64 (Der.num a0),(.slice none 0 0),str ([] : List UInt8),(.slice none 0 0),(.slice none 0 0)]) 27 (0,0)),(some b1,.cells ((Der.ce a0 a0_3 a0_5 a0_6)) 27 (0,0))]) (i:=1) rfl (Wn.none rfl) rfl rfl (f_storeA (j:=1) ty_s27 rfl rfl rfl (one_cons trivial (one_cons trivial (one_cons trivial (one_cons (sl_one (RowV.sl (IntRow.nil .u8 M))) (one_cons trivial (one_cons (sl_one (RowV.sl (IntRow.nil .u64 M))) (one_cons (sl_one (RowS.sl (RowS.nil ShDer M))) one_nil))))))) rfl rfl rfl) (keep_none rfl) ?_
           refine DL.nil ?_
           obtain rfl:=Option.some.inj h47
           exact retF (rs:=[.cell 2 27]) (vs:=[.agg #[.int .i64 (Der.kind a0),.bool false,.int .i64 (Der.num a0),(.slice none 0 0),str ([] : List UInt8),(.slice none 0 0),(.slice none 0 0)]]) ((.slice none 0 0),(.slice none 0 0),(.slice none 0 0)) hE Tryd.func47 rfl rfl rfl (res_cons (ResV.cell (j:=1) ty_a27 ty_s27 rfl rfl rfl) res_nil) ⟨(IntRow.nil .u8 M),(IntRow.nil .u64 M),(RowS.nil ShDer M)⟩
          ·
           replace c46:=Bool.eq_false_iff.mpr c46
           have h48:=ite_false c46 h45
           refine TT.cond_false (x:=sub [1,1,0,1,0,0,0,0,0,0,0,0,0,0,0,0,0,0,0,0,1,1,1,1,1,1,1,0] B47) (y:=sub [1,1,0,1,0,0,0,0,0,0,0,0,0,0,0,0,0,0,0,0,1,1,1,1,1,1,1,1] B47) rfl c46 ?_
           refine TT.skip ?_
           refine TT.exit rfl ?_
           refine TT.seq (x:=sub [1,1,1,0] B47) (y:=sub [1,1,1,1] B47) ?_
           refine TT.rg [0,1] [kq,(.store,none)] rfl rfl ?_
           refine DL.qu 47 (.agg #[.int .i64 (Der.kind a0),.bool false,.int .i64 0,(.slice none 0 0),str ([] : List UInt8),(.slice none 0 0),(.slice none 0 0)]) rfl (f_loadA (j:=0) ty_a27 ty_s27 rfl rfl rfl rfl) ?_
           refine DL.put (H':=[(some b3,.cells (#[.int .i64 (Der.kind a0),.bool false,.int .i64 0,(.slice none 0 0),str ([] : List UInt8),(.slice none 0 0),(.slice none 0 0)]) 27 (0,0)),(some b2,.cells (#[.int .i64 (Der.kind a0),.bool false,.int .i64 0,(.slice none 0 0),str ([] : List UInt8),(.slice none 0 0),(.slice none 0 0)]) 27 (0,0)),(some b1,.cells ((Der.ce a0 a0_3 a0_5 a0_6)) 27 (0,0))]) (i:=1) rfl (Wn.none rfl) rfl rfl (f_storeA (j:=1) ty_s27 rfl rfl rfl (one_cons trivial (one_cons trivial (one_cons trivial (one_cons (sl_one (RowV.sl (IntRow.nil .u8 M))) (one_cons trivial (one_cons (sl_one (RowV.sl (IntRow.nil .u64 M))) (one_cons (sl_one (RowS.sl (RowS.nil ShDer M))) one_nil))))))) rfl rfl rfl) (keep_none rfl) ?_
           refine DL.nil ?_
           obtain rfl:=Option.some.inj h48
           exact retF (rs:=[.cell 2 27]) (vs:=[.agg #[.int .i64 (Der.kind a0),.bool false,.int .i64 0,(.slice none 0 0),str ([] : List UInt8),(.slice none 0 0),(.slice none 0 0)]]) ((.slice none 0 0),(.slice none 0 0),(.slice none 0 0)) hE Tryd.func47 rfl rfl rfl (res_cons (ResV.cell (j:=1) ty_a27 ty_s27 rfl rfl rfl) res_nil) ⟨(IntRow.nil .u8 M),(IntRow.nil .u64 M),(RowS.nil ShDer M)⟩
        by_cases c35 : ((Der.kind a0) == 7) = true
        ·
         have h41:=ite_true c35 h37
         refine TT.cond_true (x:=sub [1,1,0,1,0,0,0,0,0,0,0,0,0,0,0,0,0,0,0,0,1,1,1,1,1,0,0,1,0] B47) (y:=sub [1,1,0,1,0,0,0,0,0,0,0,0,0,0,0,0,0,0,0,0,1,1,1,1,1,0,0,1,1] B47) rfl c35 ?_
         refine TT.skip ?_
         obtain rfl:=Option.some.inj h41
         exact TT.weak (J39 ) (Sub.cons rfl (Sub.cons rfl (Sub.cons rfl (Sub.cons rfl (Sub.cons rfl (Sub.nil _))))))
        ·
         replace c35:=Bool.eq_false_iff.mpr c35
         have h42:=ite_false c35 h37
         refine TT.cond_false (x:=sub [1,1,0,1,0,0,0,0,0,0,0,0,0,0,0,0,0,0,0,0,1,1,1,1,1,0,0,1,0] B47) (y:=sub [1,1,0,1,0,0,0,0,0,0,0,0,0,0,0,0,0,0,0,0,1,1,1,1,1,0,0,1,1] B47) rfl c35 ?_
         refine TT.rg [0,1] [kp,kp] rfl rfl ?_
         refine DL.pu 23 (.bool ((Der.kind a0) == 9)) rfl (p_eql rfl rfl rfl) ?_
         refine DL.pu 21 (.bool ((Der.kind a0) == 9)) rfl (p_assign rfl rfl) ?_
         refine DL.nil ?_
         obtain rfl:=Option.some.inj h42
         exact TT.weak (J39 ) (Sub.cons rfl (Sub.cons rfl (Sub.cons rfl (Sub.cons rfl (Sub.cons rfl (Sub.nil _))))))
     by_cases c21 : ((Der.kind a0) == 6) = true
     ·
      have h27:=ite_true c21 h23
      refine TT.cond_true (x:=sub [1,1,0,1,0,0,0,0,0,0,0,0,0,0,0,0,0,0,0,0,1,1,1,0,0,1,0] B47) (y:=sub [1,1,0,1,0,0,0,0,0,0,0,0,0,0,0,0,0,0,0,0,1,1,1,0,0,1,1] B47) rfl c21 ?_
      refine TT.skip ?_
      obtain rfl:=Option.some.inj h27
      exact TT.weak (J25 ) (Sub.cons rfl (Sub.cons rfl (Sub.cons rfl (Sub.cons rfl (Sub.cons rfl (Sub.nil _))))))
     ·
      replace c21:=Bool.eq_false_iff.mpr c21
      have h28:=ite_false c21 h23
      refine TT.cond_false (x:=sub [1,1,0,1,0,0,0,0,0,0,0,0,0,0,0,0,0,0,0,0,1,1,1,0,0,1,0] B47) (y:=sub [1,1,0,1,0,0,0,0,0,0,0,0,0,0,0,0,0,0,0,0,1,1,1,0,0,1,1] B47) rfl c21 ?_
      refine TT.rg [0,1] [kp,kp] rfl rfl ?_
      refine DL.pu 18 (.bool ((Der.kind a0) == 10)) rfl (p_eql rfl rfl rfl) ?_
      refine DL.pu 16 (.bool ((Der.kind a0) == 10)) rfl (p_assign rfl rfl) ?_
      refine DL.nil ?_
      obtain rfl:=Option.some.inj h28
      exact TT.weak (J25 ) (Sub.cons rfl (Sub.cons rfl (Sub.cons rfl (Sub.cons rfl (Sub.cons rfl (Sub.nil _))))))
  by_cases c7 : ((Der.kind a0) == 3) = true
  ·
   have h13:=ite_true c7 h9
   refine TT.cond_true (x:=sub [1,1,0,1,0,0,0,0,0,0,0,0,0,0,0,0,0,0,0,0,1,0,0,1,0] B47) (y:=sub [1,1,0,1,0,0,0,0,0,0,0,0,0,0,0,0,0,0,0,0,1,0,0,1,1] B47) rfl c7 ?_
   refine TT.skip ?_
   obtain rfl:=Option.some.inj h13
   exact TT.weak (J11 ) (Sub.cons rfl (Sub.cons rfl (Sub.cons rfl (Sub.cons rfl (Sub.cons rfl (Sub.nil _))))))
  ·
   replace c7:=Bool.eq_false_iff.mpr c7
   have h14:=ite_false c7 h9
   refine TT.cond_false (x:=sub [1,1,0,1,0,0,0,0,0,0,0,0,0,0,0,0,0,0,0,0,1,0,0,1,0] B47) (y:=sub [1,1,0,1,0,0,0,0,0,0,0,0,0,0,0,0,0,0,0,0,1,0,0,1,1] B47) rfl c7 ?_
   refine TT.rg [0,1] [kp,kp] rfl rfl ?_
   refine DL.pu 13 (.bool ((Der.kind a0) == 4)) rfl (p_eql rfl rfl rfl) ?_
   refine DL.pu 11 (.bool ((Der.kind a0) == 4)) rfl (p_assign rfl rfl) ?_
   refine DL.nil ?_
   obtain rfl:=Option.some.inj h14
   exact TT.weak (J11 ) (Sub.cons rfl (Sub.cons rfl (Sub.cons rfl (Sub.cons rfl (Sub.cons rfl (Sub.nil _))))))

/-! ### escutcheon/der.header: function 53 -/
noncomputable def B53 : Code:=bodyOf Tryd.f53
def der_header.f (a0 : List Int) : Option (Int × Int × Int × Bool):=if (decide ((a0.length : Int) < 2)) = true then (some (0,0,0,false)) else (req ((1 : Int) < (a0.length : Int)) (nm ((IntKind.i64.wrap (a0.getD ((1 : Int).toNat) 0)) == 129) fun t7 => (if t7 = true then (some (decide (2 < (a0.length : Int)))) else (some false)).bind fun q11 => if q11 = true then (req ((2 : Int) < (a0.length : Int)) (req ((0 : Int) < (a0.length : Int)) (nm (IntKind.i64.wrap (3 + (IntKind.i64.wrap (a0.getD ((2 : Int).toNat) 0)))) fun t25 => some (a0.getD ((0 : Int).toNat) 0,3,IntKind.i64.wrap (a0.getD ((2 : Int).toNat) 0),decide (t25 ≤ (a0.length : Int)))))) else (nm ((IntKind.i64.wrap (a0.getD ((1 : Int).toNat) 0)) == 130) fun t29 => (if t29 = true then (some (decide (3 < (a0.length : Int)))) else (some false)).bind fun q33 => if q33 = true then (req ((2 : Int) < (a0.length : Int)) (nm (ishl .i64 (IntKind.i64.wrap (a0.getD ((2 : Int).toNat) 0)) 8) fun t45 => req ((3 : Int) < (a0.length : Int)) (nm (ior .i64 t45 (IntKind.i64.wrap (a0.getD ((3 : Int).toNat) 0))) fun t50 => req ((0 : Int) < (a0.length : Int)) (nm (decide ((IntKind.i64.wrap (4 + t50)) ≤ (a0.length : Int))) fun t55 => some (a0.getD ((0 : Int).toNat) 0,4,t50,t55))))) else (nm (decide (127 < (IntKind.i64.wrap (a0.getD ((1 : Int).toNat) 0)))) fun t59 => if t59 = true then (some (0,0,0,false)) else (req ((0 : Int) < (a0.length : Int)) (nm (IntKind.i64.wrap (2 + (IntKind.i64.wrap (a0.getD ((1 : Int).toNat) 0)))) fun t67 => some (a0.getD ((0 : Int).toNat) 0,2,IntKind.i64.wrap (a0.getD ((1 : Int).toNat) 0),decide (t67 ≤ (a0.length : Int)))))))))
set_option maxRecDepth 20000 in
theorem der_header.ok {a0 : List Int} {a0_v : Value} {r_0 : Int} {r_1 : Int} {r_2 : Int} {r_3 : Bool} (h : der_header.f a0 = some (r_0,r_1,r_2,r_3)) {M : Mem} (w : World) (hM : Ext M (heapOf w)) (hr_a0 : IntRow M .u8 a0_v a0) : Calls Tryd.prog 53 #[a0_v] w (Post (fun u => u = .tuple #[.int .u8 r_0,.int .i64 r_1,.int .i64 r_2,.bool r_3]) w):=by
 unfold der_header.f at h
 have hE:=Env.start hM
 refine calls_of_TT (N:=59) (S:=[(0,a0_v)]) (c:=B53) Tryd.func53 rfl rfl rfl (by simp) ?_
 show TT _ _ _ _ _ _ [.code (sub [] B53)] _ _
 refine TT.seq (x:=sub [0] B53) (y:=sub [1] B53) ?_
 refine TT.rg [0,1,2,3] [kp,kp,kp,kp] rfl rfl ?_
 refine DL.pu 2 (.int .u8 0) rfl (p_assign rfl rfl) ?_
 refine DL.pu 3 (.int .i64 0) rfl (p_assign rfl rfl) ?_
 refine DL.pu 4 (.int .i64 0) rfl (p_assign rfl rfl) ?_
 refine DL.pu 5 (.bool false) rfl (p_assign rfl rfl) ?_
 refine DL.nil ?_
 refine TT.seq (x:=sub [1,0] B53) (y:=sub [1,1] B53) ?_
 refine TT.seq (x:=sub [1,0,0] B53) (y:=sub [1,0,1] B53) ?_
 refine TT.rg [0,1,2] [kp,kp,kp] rfl rfl ?_
 refine DL.mv 8 (a0_v) rfl rfl rfl ?_
 refine DL.pu 9 (.int .i64 (a0.length : Int)) rfl (p_slLen ty_u23 (RowV.sl hr_a0) rfl rfl) ?_
 refine DL.pu 10 (.bool (decide ((a0.length : Int) < 2))) rfl (p_lss rfl rfl rfl) ?_
 refine DL.nil ?_
 by_cases c1 : (decide ((a0.length : Int) < 2)) = true
 ·
  have h2:=ite_true c1 h
  refine TT.cond_true (x:=sub [1,0,1,0] B53) (y:=sub [1,0,1,1] B53) rfl c1 ?_
  refine TT.seq (x:=sub [1,0,1,0,0] B53) (y:=sub [1,0,1,0,1] B53) ?_
  refine TT.rg [0,1,2,3] [kp,kp,kp,kp] rfl rfl ?_
  refine DL.pu 2 (.int .u8 0) rfl (p_assign rfl rfl) ?_
  refine DL.pu 3 (.int .i64 0) rfl (p_assign rfl rfl) ?_
  refine DL.pu 4 (.int .i64 0) rfl (p_assign rfl rfl) ?_
  refine DL.pu 5 (.bool false) rfl (p_assign rfl rfl) ?_
  refine DL.nil ?_
  simp only [Option.some.injEq,Prod.mk.injEq] at h2
  obtain ⟨rfl,rfl,rfl,rfl⟩:=h2
  exact retnE (rs:=[.tmp 2,.tmp 3,.tmp 4,.tmp 5]) (vs:=[.int .u8 0,.int .i64 0,.int .i64 0,.bool false]) hE.base Tryd.func53 rfl rfl rfl (res_cons (ResV.tmp rfl) (res_cons (ResV.tmp rfl) (res_cons (ResV.tmp rfl) (res_cons (ResV.tmp rfl) res_nil)))) rfl
 ·
  replace c1:=Bool.eq_false_iff.mpr c1
  have h3:=ite_false c1 h
  refine TT.cond_false (x:=sub [1,0,1,0] B53) (y:=sub [1,0,1,1] B53) rfl c1 ?_
  refine TT.skip ?_
  refine TT.seq (x:=sub [1,1,0] B53) (y:=sub [1,1,1] B53) ?_
  refine TT.rgD [0,1,2,3,4,5] [0,1,3,7,0,31] [kp,kp,kp,kp,kp,kp] rfl mixed (by kernel_rfl) ?_
  intro w4 hl4 hj4 hz4
  refine DL.mv 11 (a0_v) rfl rfl rfl ?_
  obtain ⟨g5,h6⟩:=req_some h3
  refine DL.pu 12 (elp a0_v ((1 : Int).toNat)) rfl (p_slIx1 ty_u23 ty_s5 (RowV.some hr_a0 (by decide) g5) (by decide) g5 rfl rfl rfl) ?_
  refine DL.imm (v:=.int .u8 (a0.getD ((1 : Int).toNat) 0)) rfl (Wn.none rfl) rfl rfl rfl (i_loadEl (RowV.mono hr_a0 hE.mi) (encl_get .u8 (lt_len (by decide) g5)) ty_a5 rfl rfl) ?_
  refine DL.pu 14 (.int .i64 (IntKind.i64.wrap (a0.getD ((1 : Int).toNat) 0))) rfl (p_conv ty_u5 ty_u3 ⟨_,rfl⟩ rfl rfl) ?_
  refine DL.pu 6 (.int .i64 2) rfl (p_assign rfl rfl) ?_
  refine DL.pu 7 (.int .i64 (IntKind.i64.wrap (a0.getD ((1 : Int).toNat) 0))) rfl (p_assign rfl rfl) ?_
  refine DL.nil' hl4 ?_
  refine TT.seq (x:=sub [1,1,1,0] B53) (y:=sub [1,1,1,1] B53) ?_
  refine TT.block (c:=sub [1,1,1,0,0] B53) ?_
  refine TT.seq (x:=sub [1,1,1,0,0,0] B53) (y:=sub [1,1,1,0,0,1] B53) ?_
  refine TT.rg [0,1,2,3,4,5,6,7] [kp,kp,kp,kp,kp,kp,kp,kp] rfl rfl ?_
  refine DL.mv 16 (.int .i64 (IntKind.i64.wrap (a0.getD ((1 : Int).toNat) 0))) rfl rfl rfl ?_
  obtain ⟨t7,e8,h9⟩:=nm_some h6
  refine DL.pu 17 (.bool t7) rfl (by rw [e8]; exact p_eql rfl rfl rfl) ?_
  refine DL.mv 18 (.bool t7) rfl rfl rfl ?_
  obtain ⟨q11,h12,h13⟩:=bind_some h9
  refine DL.cut [(0,a0_v),(6,.int .i64 2),(7,.int .i64 (IntKind.i64.wrap (a0.getD ((1 : Int).toNat) 0))),(22,.bool q11)] [7] ?_ (fun J14 => ?_)
  ·
   refine DL.pu 15 (.bool q11) rfl (p_assign rfl rfl) ?_
   refine DL.nil ?_
   by_cases c18 : q11 = true
   ·
    have h19:=ite_true c18 h13
    refine TT.cond_true (x:=sub [1,1,1,0,0,1,0] B53) (y:=sub [1,1,1,0,0,1,1] B53) rfl c18 ?_
    refine TT.rgD [0,1,2,3,4,5] [0,1,3,7,0,31] [kp,kp,kp,kp,kp,kp] rfl mixed (by kernel_rfl) ?_
    intro w20 hl20 hj20 hz20
    refine DL.mv 23 (a0_v) rfl rfl rfl ?_
    obtain ⟨g21,h22⟩:=req_some h19
    refine DL.pu 24 (elp a0_v ((2 : Int).toNat)) rfl (p_slIx1 ty_u23 ty_s5 (RowV.some hr_a0 (by decide) g21) (by decide) g21 rfl rfl rfl) ?_
    refine DL.imm (v:=.int .u8 (a0.getD ((2 : Int).toNat) 0)) rfl (Wn.none rfl) rfl rfl rfl (i_loadEl (RowV.mono hr_a0 hE.mi) (encl_get .u8 (lt_len (by decide) g21)) ty_a5 rfl rfl) ?_
    refine DL.pu 26 (.int .i64 (IntKind.i64.wrap (a0.getD ((2 : Int).toNat) 0))) rfl (p_conv ty_u5 ty_u3 ⟨_,rfl⟩ rfl rfl) ?_
    refine DL.pu 6 (.int .i64 3) rfl (p_assign rfl rfl) ?_
    refine DL.pu 7 (.int .i64 (IntKind.i64.wrap (a0.getD ((2 : Int).toNat) 0))) rfl (p_assign rfl rfl) ?_
    refine DL.nil' hl20 ?_
    refine TT.inBlock ?_
    refine TT.seq (x:=sub [1,1,1,1,0] B53) (y:=sub [1,1,1,1,1] B53) ?_
    refine TT.rg [0,1,2,3,4,5,6,7,8,9,10,11,12,13,14] [kp,kp,kp,kp,kp,kp,kp,kp,kp,kp,kp,kp,kp,kp,kp] rfl rfl ?_
    refine DL.mv 48 (a0_v) rfl rfl rfl ?_
    obtain ⟨g23,h24⟩:=req_some h22
    refine DL.pu 49 (elp a0_v ((0 : Int).toNat)) rfl (p_slIx1 ty_u23 ty_s5 (RowV.some hr_a0 (by decide) g23) (by decide) g23 rfl rfl rfl) ?_
    refine DL.imm (v:=.int .u8 (a0.getD ((0 : Int).toNat) 0)) rfl (Wn.none rfl) rfl rfl rfl (i_loadEl (RowV.mono hr_a0 hE.mi) (encl_get .u8 (lt_len (by decide) g23)) ty_a5 rfl rfl) ?_
    refine DL.mv 51 (.int .i64 3) rfl rfl rfl ?_
    refine DL.mv 52 (.int .i64 (IntKind.i64.wrap (a0.getD ((2 : Int).toNat) 0))) rfl rfl rfl ?_
    refine DL.mv 53 (.int .i64 3) rfl rfl rfl ?_
    refine DL.mv 54 (.int .i64 (IntKind.i64.wrap (a0.getD ((2 : Int).toNat) 0))) rfl rfl rfl ?_
    obtain ⟨t25,e26,h27⟩:=nm_some h24
    refine DL.pu 55 (.int .i64 t25) rfl (by rw [e26]; exact p_add rfl rfl rfl) ?_
    refine DL.mv 56 (a0_v) rfl rfl rfl ?_
    refine DL.pu 57 (.int .i64 (a0.length : Int)) rfl (p_slLen ty_u23 (RowV.sl hr_a0) rfl rfl) ?_
    refine DL.pu 58 (.bool (decide (t25 ≤ (a0.length : Int)))) rfl (p_leq rfl rfl rfl) ?_
    refine DL.pu 2 (.int .u8 (a0.getD ((0 : Int).toNat) 0)) rfl (p_assign rfl rfl) ?_
    refine DL.pu 3 (.int .i64 3) rfl (p_assign rfl rfl) ?_
    refine DL.pu 4 (.int .i64 (IntKind.i64.wrap (a0.getD ((2 : Int).toNat) 0))) rfl (p_assign rfl rfl) ?_
    refine DL.pu 5 (.bool (decide (t25 ≤ (a0.length : Int)))) rfl (p_assign rfl rfl) ?_
    refine DL.nil ?_
    simp only [Option.some.injEq,Prod.mk.injEq] at h27
    obtain ⟨rfl,rfl,rfl,rfl⟩:=h27
    exact retnE (rs:=[.tmp 2,.tmp 3,.tmp 4,.tmp 5]) (vs:=[.int .u8 (a0.getD ((0 : Int).toNat) 0),.int .i64 3,.int .i64 (IntKind.i64.wrap (a0.getD ((2 : Int).toNat) 0)),.bool (decide (t25 ≤ (a0.length : Int)))]) hE.base Tryd.func53 rfl rfl rfl (res_cons (ResV.tmp rfl) (res_cons (ResV.tmp rfl) (res_cons (ResV.tmp rfl) (res_cons (ResV.tmp rfl) res_nil)))) rfl
   ·
    replace c18:=Bool.eq_false_iff.mpr c18
    have h28:=ite_false c18 h13
    refine TT.cond_false (x:=sub [1,1,1,0,0,1,0] B53) (y:=sub [1,1,1,0,0,1,1] B53) rfl c18 ?_
    refine TT.seq (x:=sub [1,1,1,0,0,1,1,0] B53) (y:=sub [1,1,1,0,0,1,1,1] B53) ?_
    refine TT.rg [0,1,2,3,4,5,6,7] [kp,kp,kp,kp,kp,kp,kp,kp] rfl rfl ?_
    refine DL.mv 28 (.int .i64 (IntKind.i64.wrap (a0.getD ((1 : Int).toNat) 0))) rfl rfl rfl ?_
    obtain ⟨t29,e30,h31⟩:=nm_some h28
    refine DL.pu 29 (.bool t29) rfl (by rw [e30]; exact p_eql rfl rfl rfl) ?_
    refine DL.mv 30 (.bool t29) rfl rfl rfl ?_
    obtain ⟨q33,h34,h35⟩:=bind_some h31
    refine DL.cut [(0,a0_v),(6,.int .i64 2),(7,.int .i64 (IntKind.i64.wrap (a0.getD ((1 : Int).toNat) 0))),(34,.bool q33)] [7] ?_ (fun J36 => ?_)
    ·
     refine DL.pu 27 (.bool q33) rfl (p_assign rfl rfl) ?_
     refine DL.nil ?_
     by_cases c40 : q33 = true
     ·
      have h41:=ite_true c40 h35
      refine TT.cond_true (x:=sub [1,1,1,0,0,1,1,1,0] B53) (y:=sub [1,1,1,0,0,1,1,1,1] B53) rfl c40 ?_
      refine TT.rgD [0,1,2,3,4,5,6,7,8,9,10,11] [0,1,3,7,15,0,32,96,224,511,0,2047] [kp,kp,kp,kp,kp,kp,kp,kp,kp,kp,kp,kp] rfl mixed (by kernel_rfl) ?_
      intro w42 hl42 hj42 hz42
      refine DL.mv 35 (a0_v) rfl rfl rfl ?_
      obtain ⟨g43,h44⟩:=req_some h41
      refine DL.pu 36 (elp a0_v ((2 : Int).toNat)) rfl (p_slIx1 ty_u23 ty_s5 (RowV.some hr_a0 (by decide) g43) (by decide) g43 rfl rfl rfl) ?_
      refine DL.imm (v:=.int .u8 (a0.getD ((2 : Int).toNat) 0)) rfl (Wn.none rfl) rfl rfl rfl (i_loadEl (RowV.mono hr_a0 hE.mi) (encl_get .u8 (lt_len (by decide) g43)) ty_a5 rfl rfl) ?_
      refine DL.pu 38 (.int .i64 (IntKind.i64.wrap (a0.getD ((2 : Int).toNat) 0))) rfl (p_conv ty_u5 ty_u3 ⟨_,rfl⟩ rfl rfl) ?_
      obtain ⟨t45,e46,h47⟩:=nm_some h44
      refine DL.pu 39 (.int .i64 t45) rfl (by rw [e46]; exact p_shl (by decide) rfl rfl rfl) ?_
      refine DL.mv 40 (a0_v) rfl rfl rfl ?_
      obtain ⟨g48,h49⟩:=req_some h47
      refine DL.pu 41 (elp a0_v ((3 : Int).toNat)) rfl (p_slIx1 ty_u23 ty_s5 (RowV.some hr_a0 (by decide) g48) (by decide) g48 rfl rfl rfl) ?_
      refine DL.imm (v:=.int .u8 (a0.getD ((3 : Int).toNat) 0)) rfl (Wn.none rfl) rfl rfl rfl (i_loadEl (RowV.mono hr_a0 hE.mi) (encl_get .u8 (lt_len (by decide) g48)) ty_a5 rfl rfl) ?_
      refine DL.pu 43 (.int .i64 (IntKind.i64.wrap (a0.getD ((3 : Int).toNat) 0))) rfl (p_conv ty_u5 ty_u3 ⟨_,rfl⟩ rfl rfl) ?_
      obtain ⟨t50,e51,h52⟩:=nm_some h49
      refine DL.pu 44 (.int .i64 t50) rfl (by rw [e51]; exact p_or rfl rfl rfl) ?_
      refine DL.pu 6 (.int .i64 4) rfl (p_assign rfl rfl) ?_
      refine DL.pu 7 (.int .i64 t50) rfl (p_assign rfl rfl) ?_
      refine DL.nil' hl42 ?_
      refine TT.inBlock ?_
      refine TT.seq (x:=sub [1,1,1,1,0] B53) (y:=sub [1,1,1,1,1] B53) ?_
      refine TT.rg [0,1,2,3,4,5,6,7,8,9,10,11,12,13,14] [kp,kp,kp,kp,kp,kp,kp,kp,kp,kp,kp,kp,kp,kp,kp] rfl rfl ?_
      refine DL.mv 48 (a0_v) rfl rfl rfl ?_
      obtain ⟨g53,h54⟩:=req_some h52
      refine DL.pu 49 (elp a0_v ((0 : Int).toNat)) rfl (p_slIx1 ty_u23 ty_s5 (RowV.some hr_a0 (by decide) g53) (by decide) g53 rfl rfl rfl) ?_
      refine DL.imm (v:=.int .u8 (a0.getD ((0 : Int).toNat) 0)) rfl (Wn.none rfl) rfl rfl rfl (i_loadEl (RowV.mono hr_a0 hE.mi) (encl_get .u8 (lt_len (by decide) g53)) ty_a5 rfl rfl) ?_
      refine DL.mv 51 (.int .i64 4) rfl rfl rfl ?_
      refine DL.mv 52 (.int .i64 t50) rfl rfl rfl ?_
      refine DL.mv 53 (.int .i64 4) rfl rfl rfl ?_
      refine DL.mv 54 (.int .i64 t50) rfl rfl rfl ?_
      refine DL.pu 55 (.int .i64 (IntKind.i64.wrap (4 + t50))) rfl (p_add rfl rfl rfl) ?_
      refine DL.mv 56 (a0_v) rfl rfl rfl ?_
      refine DL.pu 57 (.int .i64 (a0.length : Int)) rfl (p_slLen ty_u23 (RowV.sl hr_a0) rfl rfl) ?_
      obtain ⟨t55,e56,h57⟩:=nm_some h54
      refine DL.pu 58 (.bool t55) rfl (by rw [e56]; exact p_leq rfl rfl rfl) ?_
      refine DL.pu 2 (.int .u8 (a0.getD ((0 : Int).toNat) 0)) rfl (p_assign rfl rfl) ?_
      refine DL.pu 3 (.int .i64 4) rfl (p_assign rfl rfl) ?_
      refine DL.pu 4 (.int .i64 t50) rfl (p_assign rfl rfl) ?_
      refine DL.pu 5 (.bool t55) rfl (p_assign rfl rfl) ?_
      refine DL.nil ?_
      simp only [Option.some.injEq,Prod.mk.injEq] at h57
      obtain ⟨rfl,rfl,rfl,rfl⟩:=h57
      exact retnE (rs:=[.tmp 2,.tmp 3,.tmp 4,.tmp 5]) (vs:=[.int .u8 (a0.getD ((0 : Int).toNat) 0),.int .i64 4,.int .i64 t50,.bool t55]) hE.base Tryd.func53 rfl rfl rfl (res_cons (ResV.tmp rfl) (res_cons (ResV.tmp rfl) (res_cons (ResV.tmp rfl) (res_cons (ResV.tmp rfl) res_nil)))) rfl
     ·
      replace c40:=Bool.eq_false_iff.mpr c40
      have h58:=ite_false c40 h35
      refine TT.cond_false (x:=sub [1,1,1,0,0,1,1,1,0] B53) (y:=sub [1,1,1,0,0,1,1,1,1] B53) rfl c40 ?_
      refine TT.seq (x:=sub [1,1,1,0,0,1,1,1,1,0] B53) (y:=sub [1,1,1,0,0,1,1,1,1,1] B53) ?_
      refine TT.rg [0,1,2] [kp,kp,kp] rfl rfl ?_
      refine DL.mv 46 (.int .i64 (IntKind.i64.wrap (a0.getD ((1 : Int).toNat) 0))) rfl rfl rfl ?_
      obtain ⟨t59,e60,h61⟩:=nm_some h58
      refine DL.pu 47 (.bool t59) rfl (by rw [e60]; exact p_gtr rfl rfl rfl) ?_
      refine DL.pu 45 (.bool t59) rfl (p_assign rfl rfl) ?_
      refine DL.nil ?_
      by_cases c62 : t59 = true
      ·
       have h63:=ite_true c62 h61
       refine TT.cond_true (x:=sub [1,1,1,0,0,1,1,1,1,1,0] B53) (y:=sub [1,1,1,0,0,1,1,1,1,1,1] B53) rfl c62 ?_
       refine TT.seq (x:=sub [1,1,1,0,0,1,1,1,1,1,0,0] B53) (y:=sub [1,1,1,0,0,1,1,1,1,1,0,1] B53) ?_
       refine TT.rg [0,1,2,3] [kp,kp,kp,kp] rfl rfl ?_
       refine DL.pu 2 (.int .u8 0) rfl (p_assign rfl rfl) ?_
       refine DL.pu 3 (.int .i64 0) rfl (p_assign rfl rfl) ?_
       refine DL.pu 4 (.int .i64 0) rfl (p_assign rfl rfl) ?_
       refine DL.pu 5 (.bool false) rfl (p_assign rfl rfl) ?_
       refine DL.nil ?_
       simp only [Option.some.injEq,Prod.mk.injEq] at h63
       obtain ⟨rfl,rfl,rfl,rfl⟩:=h63
       exact retnE (rs:=[.tmp 2,.tmp 3,.tmp 4,.tmp 5]) (vs:=[.int .u8 0,.int .i64 0,.int .i64 0,.bool false]) hE.base Tryd.func53 rfl rfl rfl (res_cons (ResV.tmp rfl) (res_cons (ResV.tmp rfl) (res_cons (ResV.tmp rfl) (res_cons (ResV.tmp rfl) res_nil)))) rfl
      ·
       replace c62:=Bool.eq_false_iff.mpr c62
       have h64:=ite_false c62 h61
       refine TT.cond_false (x:=sub [1,1,1,0,0,1,1,1,1,1,0] B53) (y:=sub [1,1,1,0,0,1,1,1,1,1,1] B53) rfl c62 ?_
       refine TT.skip ?_
       refine TT.inBlock ?_
       refine TT.seq (x:=sub [1,1,1,1,0] B53) (y:=sub [1,1,1,1,1] B53) ?_
       refine TT.rg [0,1,2,3,4,5,6,7,8,9,10,11,12,13,14] [kp,kp,kp,kp,kp,kp,kp,kp,kp,kp,kp,kp,kp,kp,kp] rfl rfl ?_
       refine DL.mv 48 (a0_v) rfl rfl rfl ?_
       obtain ⟨g65,h66⟩:=req_some h64
       refine DL.pu 49 (elp a0_v ((0 : Int).toNat)) rfl (p_slIx1 ty_u23 ty_s5 (RowV.some hr_a0 (by decide) g65) (by decide) g65 rfl rfl rfl) ?_
       refine DL.imm (v:=.int .u8 (a0.getD ((0 : Int).toNat) 0)) rfl (Wn.none rfl) rfl rfl rfl (i_loadEl (RowV.mono hr_a0 hE.mi) (encl_get .u8 (lt_len (by decide) g65)) ty_a5 rfl rfl) ?_
       refine DL.mv 51 (.int .i64 2) rfl rfl rfl ?_
       refine DL.mv 52 (.int .i64 (IntKind.i64.wrap (a0.getD ((1 : Int).toNat) 0))) rfl rfl rfl ?_
       refine DL.mv 53 (.int .i64 2) rfl rfl rfl ?_
       refine DL.mv 54 (.int .i64 (IntKind.i64.wrap (a0.getD ((1 : Int).toNat) 0))) rfl rfl rfl ?_
       obtain ⟨t67,e68,h69⟩:=nm_some h66
       refine DL.pu 55 (.int .i64 t67) rfl (by rw [e68]; exact p_add rfl rfl rfl) ?_
       refine DL.mv 56 (a0_v) rfl rfl rfl ?_
       refine DL.pu 57 (.int .i64 (a0.length : Int)) rfl (p_slLen ty_u23 (RowV.sl hr_a0) rfl rfl) ?_
       refine DL.pu 58 (.bool (decide (t67 ≤ (a0.length : Int)))) rfl (p_leq rfl rfl rfl) ?_
       refine DL.pu 2 (.int .u8 (a0.getD ((0 : Int).toNat) 0)) rfl (p_assign rfl rfl) ?_
       refine DL.pu 3 (.int .i64 2) rfl (p_assign rfl rfl) ?_
       refine DL.pu 4 (.int .i64 (IntKind.i64.wrap (a0.getD ((1 : Int).toNat) 0))) rfl (p_assign rfl rfl) ?_
       refine DL.pu 5 (.bool (decide (t67 ≤ (a0.length : Int)))) rfl (p_assign rfl rfl) ?_
       refine DL.nil ?_
       simp only [Option.some.injEq,Prod.mk.injEq] at h69
       obtain ⟨rfl,rfl,rfl,rfl⟩:=h69
       exact retnE (rs:=[.tmp 2,.tmp 3,.tmp 4,.tmp 5]) (vs:=[.int .u8 (a0.getD ((0 : Int).toNat) 0),.int .i64 2,.int .i64 (IntKind.i64.wrap (a0.getD ((1 : Int).toNat) 0)),.bool (decide (t67 ≤ (a0.length : Int)))]) hE.base Tryd.func53 rfl rfl rfl (res_cons (ResV.tmp rfl) (res_cons (ResV.tmp rfl) (res_cons (ResV.tmp rfl) (res_cons (ResV.tmp rfl) res_nil)))) rfl
    ·
     by_cases c37 : t29 = true
     ·
      have h38:=ite_true c37 h34
      refine DL.pure (v:=a0_v) rfl (Wn.yes c37 rfl rfl rfl rfl) rfl rfl rfl (p_move rfl rfl) ?_
      refine DL.pure (v:=.int .i64 (a0.length : Int)) rfl (Wn.yes c37 rfl rfl rfl rfl) rfl rfl rfl (p_slLen ty_u23 (RowV.sl hr_a0) rfl rfl) ?_
      refine DL.pure (v:=.bool (decide (3 < (a0.length : Int)))) rfl (Wn.yes c37 rfl rfl rfl rfl) rfl rfl rfl (p_gtr rfl rfl rfl) ?_
      refine DL.pu 34 (.bool (decide (3 < (a0.length : Int)))) rfl (p_pick_t c37 rfl rfl rfl) ?_
      obtain rfl:=Option.some.inj h38
      exact DL.weak J36 (Sub.cons rfl (Sub.cons rfl (Sub.cons rfl (Sub.cons rfl (Sub.nil _)))))
     ·
      replace c37:=Bool.eq_false_iff.mpr c37
      have h39:=ite_false c37 h34
      refine DL.not (i:=3) rfl (Wn.no c37 rfl rfl rfl rfl) rfl rfl ?_
      refine DL.not (i:=4) rfl (Wn.no c37 rfl rfl rfl rfl) rfl rfl ?_
      refine DL.not (i:=5) rfl (Wn.no c37 rfl rfl rfl rfl) rfl rfl ?_
      refine DL.pu 34 (.bool false) rfl (p_pick_f c37 rfl rfl rfl) ?_
      obtain rfl:=Option.some.inj h39
      exact DL.weak J36 (Sub.cons rfl (Sub.cons rfl (Sub.cons rfl (Sub.cons rfl (Sub.nil _)))))
  ·
   by_cases c15 : t7 = true
   ·
    have h16:=ite_true c15 h12
    refine DL.pure (v:=a0_v) rfl (Wn.yes c15 rfl rfl rfl rfl) rfl rfl rfl (p_move rfl rfl) ?_
    refine DL.pure (v:=.int .i64 (a0.length : Int)) rfl (Wn.yes c15 rfl rfl rfl rfl) rfl rfl rfl (p_slLen ty_u23 (RowV.sl hr_a0) rfl rfl) ?_
    refine DL.pure (v:=.bool (decide (2 < (a0.length : Int)))) rfl (Wn.yes c15 rfl rfl rfl rfl) rfl rfl rfl (p_gtr rfl rfl rfl) ?_
    refine DL.pu 22 (.bool (decide (2 < (a0.length : Int)))) rfl (p_pick_t c15 rfl rfl rfl) ?_
    obtain rfl:=Option.some.inj h16
    exact DL.weak J14 (Sub.cons rfl (Sub.cons rfl (Sub.cons rfl (Sub.cons rfl (Sub.nil _)))))
   ·
    replace c15:=Bool.eq_false_iff.mpr c15
    have h17:=ite_false c15 h12
    refine DL.not (i:=3) rfl (Wn.no c15 rfl rfl rfl rfl) rfl rfl ?_
    refine DL.not (i:=4) rfl (Wn.no c15 rfl rfl rfl rfl) rfl rfl ?_
    refine DL.not (i:=5) rfl (Wn.no c15 rfl rfl rfl rfl) rfl rfl ?_
    refine DL.pu 22 (.bool false) rfl (p_pick_f c15 rfl rfl rfl) ?_
    obtain rfl:=Option.some.inj h17
    exact DL.weak J14 (Sub.cons rfl (Sub.cons rfl (Sub.cons rfl (Sub.cons rfl (Sub.nil _)))))
theorem der_header.val {a0 : List Int} {a0_v : Value} {r_0 : Int} {r_1 : Int} {r_2 : Int} {r_3 : Bool} (h : der_header.f a0 = some (r_0,r_1,r_2,r_3)) {M : Mem} (w : World) (hM : Ext M (heapOf w)) (hr_a0 : IntRow M .u8 a0_v a0) : Calls Tryd.prog 53 #[a0_v] w fun e w' => e = .returned (.tuple #[.int .u8 r_0,.int .i64 r_1,.int .i64 r_2,.bool r_3]) ∧ Below w.heap.size w w' :=
 calls_value (der_header.ok h w hM hr_a0)

/-! ### escutcheon/escutcheonref13.head: function 56 -/
noncomputable def B56 : Code:=bodyOf Tryd.f56
def ref13_head.f (a0 : List Int) : Option (Int × Int × Bool):=if (decide ((a0.length : Int) < 2)) = true then (some (0,0,false)) else (req ((1 : Int) < (a0.length : Int)) ((if ((a0.getD ((1 : Int).toNat) 0) == 129) = true then (some (decide (3 ≤ (a0.length : Int)))) else (some false)).bind fun q8 => if q8 = true then (req ((2 : Int) < (a0.length : Int)) (nm (IntKind.i64.wrap (3 + (IntKind.i64.wrap (a0.getD ((2 : Int).toNat) 0)))) fun t20 => nm (IntKind.i64.wrap (3 + (IntKind.i64.wrap (a0.getD ((2 : Int).toNat) 0)))) fun t23 => some (3,t20,decide (t23 ≤ (a0.length : Int))))) else ((if ((a0.getD ((1 : Int).toNat) 0) == 130) = true then (some (decide (4 ≤ (a0.length : Int)))) else (some false)).bind fun q28 => if q28 = true then (req ((2 : Int) < (a0.length : Int)) (nm (IntKind.i64.wrap (256 * (IntKind.i64.wrap (a0.getD ((2 : Int).toNat) 0)))) fun t40 => req ((3 : Int) < (a0.length : Int)) (nm (IntKind.i64.wrap (t40 + (IntKind.i64.wrap (a0.getD ((3 : Int).toNat) 0)))) fun t45 => nm (decide ((IntKind.i64.wrap (4 + t45)) ≤ (a0.length : Int))) fun t48 => some (4,IntKind.i64.wrap (4 + t45),t48)))) else (if (decide (128 ≤ (a0.getD ((1 : Int).toNat) 0))) = true then (some (0,0,false)) else (nm (IntKind.i64.wrap (2 + (IntKind.i64.wrap (a0.getD ((1 : Int).toNat) 0)))) fun t55 => nm (IntKind.i64.wrap (2 + (IntKind.i64.wrap (a0.getD ((1 : Int).toNat) 0)))) fun t58 => some (2,t55,decide (t58 ≤ (a0.length : Int))))))))
set_option maxRecDepth 20000 in
theorem ref13_head.ok {a0 : List Int} {a0_v : Value} {r_0 : Int} {r_1 : Int} {r_2 : Bool} (h : ref13_head.f a0 = some (r_0,r_1,r_2)) {M : Mem} (w : World) (hM : Ext M (heapOf w)) (hr_a0 : IntRow M .u8 a0_v a0) : Calls Tryd.prog 56 #[a0_v] w (Post (fun u => u = .tuple #[.int .i64 r_0,.int .i64 r_1,.bool r_2]) w):=by
 unfold ref13_head.f at h
 have hE:=Env.start hM
 refine calls_of_TT (N:=60) (S:=[(0,a0_v)]) (c:=B56) Tryd.func56 rfl rfl rfl (by simp) ?_
 show TT _ _ _ _ _ _ [.code (sub [] B56)] _ _
 refine TT.seq (x:=sub [0] B56) (y:=sub [1] B56) ?_
 refine TT.rg [0,1,2] [kp,kp,kp] rfl rfl ?_
 refine DL.pu 2 (.int .i64 0) rfl (p_assign rfl rfl) ?_
 refine DL.pu 3 (.int .i64 0) rfl (p_assign rfl rfl) ?_
 refine DL.pu 4 (.bool false) rfl (p_assign rfl rfl) ?_
 refine DL.nil ?_
 refine TT.seq (x:=sub [1,0] B56) (y:=sub [1,1] B56) ?_
 refine TT.seq (x:=sub [1,0,0] B56) (y:=sub [1,0,1] B56) ?_
 refine TT.rg [0,1,2] [kp,kp,kp] rfl rfl ?_
 refine DL.mv 7 (a0_v) rfl rfl rfl ?_
 refine DL.pu 8 (.int .i64 (a0.length : Int)) rfl (p_slLen ty_u23 (RowV.sl hr_a0) rfl rfl) ?_
 refine DL.pu 9 (.bool (decide ((a0.length : Int) < 2))) rfl (p_lss rfl rfl rfl) ?_
 refine DL.nil ?_
 by_cases c1 : (decide ((a0.length : Int) < 2)) = true
 ·
  have h2:=ite_true c1 h
  refine TT.cond_true (x:=sub [1,0,1,0] B56) (y:=sub [1,0,1,1] B56) rfl c1 ?_
  refine TT.seq (x:=sub [1,0,1,0,0] B56) (y:=sub [1,0,1,0,1] B56) ?_
  refine TT.rg [0,1,2] [kp,kp,kp] rfl rfl ?_
  refine DL.pu 2 (.int .i64 0) rfl (p_assign rfl rfl) ?_
  refine DL.pu 3 (.int .i64 0) rfl (p_assign rfl rfl) ?_
  refine DL.pu 4 (.bool false) rfl (p_assign rfl rfl) ?_
  refine DL.nil ?_
  simp only [Option.some.injEq,Prod.mk.injEq] at h2
  obtain ⟨rfl,rfl,rfl⟩:=h2
  exact retnE (rs:=[.tmp 2,.tmp 3,.tmp 4]) (vs:=[.int .i64 0,.int .i64 0,.bool false]) hE.base Tryd.func56 rfl rfl rfl (res_cons (ResV.tmp rfl) (res_cons (ResV.tmp rfl) (res_cons (ResV.tmp rfl) res_nil))) rfl
 ·
  replace c1:=Bool.eq_false_iff.mpr c1
  have h3:=ite_false c1 h
  refine TT.cond_false (x:=sub [1,0,1,0] B56) (y:=sub [1,0,1,1] B56) rfl c1 ?_
  refine TT.skip ?_
  refine TT.seq (x:=sub [1,1,0] B56) (y:=sub [1,1,1] B56) ?_
  refine TT.rgD [0,1,2,3,4,5] [0,1,3,7,0,31] [kp,kp,kp,kp,kp,kp] rfl mixed (by kernel_rfl) ?_
  intro w4 hl4 hj4 hz4
  refine DL.mv 10 (a0_v) rfl rfl rfl ?_
  obtain ⟨g5,h6⟩:=req_some h3
  refine DL.pu 11 (elp a0_v ((1 : Int).toNat)) rfl (p_slIx1 ty_u23 ty_s5 (RowV.some hr_a0 (by decide) g5) (by decide) g5 rfl rfl rfl) ?_
  refine DL.imm (v:=.int .u8 (a0.getD ((1 : Int).toNat) 0)) rfl (Wn.none rfl) rfl rfl rfl (i_loadEl (RowV.mono hr_a0 hE.mi) (encl_get .u8 (lt_len (by decide) g5)) ty_a5 rfl rfl) ?_
  refine DL.pu 13 (.int .i64 (IntKind.i64.wrap (a0.getD ((1 : Int).toNat) 0))) rfl (p_conv ty_u5 ty_u3 ⟨_,rfl⟩ rfl rfl) ?_
  refine DL.pu 5 (.int .i64 2) rfl (p_assign rfl rfl) ?_
  refine DL.pu 6 (.int .i64 (IntKind.i64.wrap (a0.getD ((1 : Int).toNat) 0))) rfl (p_assign rfl rfl) ?_
  refine DL.nil' hl4 ?_
  refine TT.seq (x:=sub [1,1,1,0] B56) (y:=sub [1,1,1,1] B56) ?_
  refine TT.seq (x:=sub [1,1,1,0,0] B56) (y:=sub [1,1,1,0,1] B56) ?_
  refine TT.rg [0,1,2,3,4,5,6,7,8] [kp,kp,kp,kp,kp,kp,kp,kp,kp] rfl rfl ?_
  refine DL.mv 14 (a0_v) rfl rfl rfl ?_
  refine DL.pu 15 (elp a0_v ((1 : Int).toNat)) rfl (p_slIx1 ty_u23 ty_s5 (RowV.some hr_a0 (by decide) g5) (by decide) g5 rfl rfl rfl) ?_
  refine DL.imm (v:=.int .u8 (a0.getD ((1 : Int).toNat) 0)) rfl (Wn.none rfl) rfl rfl rfl (i_loadEl (RowV.mono hr_a0 hE.mi) (encl_get .u8 (lt_len (by decide) g5)) ty_a5 rfl rfl) ?_
  refine DL.pu 17 (.bool ((a0.getD ((1 : Int).toNat) 0) == 129)) rfl (p_eql rfl rfl rfl) ?_
  refine DL.mv 18 (.bool ((a0.getD ((1 : Int).toNat) 0) == 129)) rfl rfl rfl ?_
  obtain ⟨q8,h9,h10⟩:=bind_some h6
  refine DL.cut [(0,a0_v),(5,.int .i64 2),(6,.int .i64 (IntKind.i64.wrap (a0.getD ((1 : Int).toNat) 0))),(22,.bool q8)] [] ?_ (fun J11 => ?_)
  ·
   refine DL.nil ?_
   by_cases c15 : q8 = true
   ·
    have h16:=ite_true c15 h10
    refine TT.cond_true (x:=sub [1,1,1,0,1,0] B56) (y:=sub [1,1,1,0,1,1] B56) rfl c15 ?_
    refine TT.rgD [0,1,2,3,4,5] [0,1,3,7,0,31] [kp,kp,kp,kp,kp,kp] rfl mixed (by kernel_rfl) ?_
    intro w17 hl17 hj17 hz17
    refine DL.mv 23 (a0_v) rfl rfl rfl ?_
    obtain ⟨g18,h19⟩:=req_some h16
    refine DL.pu 24 (elp a0_v ((2 : Int).toNat)) rfl (p_slIx1 ty_u23 ty_s5 (RowV.some hr_a0 (by decide) g18) (by decide) g18 rfl rfl rfl) ?_
    refine DL.imm (v:=.int .u8 (a0.getD ((2 : Int).toNat) 0)) rfl (Wn.none rfl) rfl rfl rfl (i_loadEl (RowV.mono hr_a0 hE.mi) (encl_get .u8 (lt_len (by decide) g18)) ty_a5 rfl rfl) ?_
    refine DL.pu 26 (.int .i64 (IntKind.i64.wrap (a0.getD ((2 : Int).toNat) 0))) rfl (p_conv ty_u5 ty_u3 ⟨_,rfl⟩ rfl rfl) ?_
    refine DL.pu 5 (.int .i64 3) rfl (p_assign rfl rfl) ?_
    refine DL.pu 6 (.int .i64 (IntKind.i64.wrap (a0.getD ((2 : Int).toNat) 0))) rfl (p_assign rfl rfl) ?_
    refine DL.nil' hl17 ?_
    refine TT.seq (x:=sub [1,1,1,1,0] B56) (y:=sub [1,1,1,1,1] B56) ?_
    refine TT.rg [0,1,2,3,4,5,6,7,8,9,10,11,12] [kp,kp,kp,kp,kp,kp,kp,kp,kp,kp,kp,kp,kp] rfl rfl ?_
    refine DL.mv 50 (.int .i64 3) rfl rfl rfl ?_
    refine DL.mv 51 (.int .i64 3) rfl rfl rfl ?_
    refine DL.mv 52 (.int .i64 (IntKind.i64.wrap (a0.getD ((2 : Int).toNat) 0))) rfl rfl rfl ?_
    obtain ⟨t20,e21,h22⟩:=nm_some h19
    refine DL.pu 53 (.int .i64 t20) rfl (by rw [e21]; exact p_add rfl rfl rfl) ?_
    refine DL.mv 54 (.int .i64 3) rfl rfl rfl ?_
    refine DL.mv 55 (.int .i64 (IntKind.i64.wrap (a0.getD ((2 : Int).toNat) 0))) rfl rfl rfl ?_
    obtain ⟨t23,e24,h25⟩:=nm_some h22
    refine DL.pu 56 (.int .i64 t23) rfl (by rw [e24]; exact p_add rfl rfl rfl) ?_
    refine DL.mv 57 (a0_v) rfl rfl rfl ?_
    refine DL.pu 58 (.int .i64 (a0.length : Int)) rfl (p_slLen ty_u23 (RowV.sl hr_a0) rfl rfl) ?_
    refine DL.pu 59 (.bool (decide (t23 ≤ (a0.length : Int)))) rfl (p_leq rfl rfl rfl) ?_
    refine DL.pu 2 (.int .i64 3) rfl (p_assign rfl rfl) ?_
    refine DL.pu 3 (.int .i64 t20) rfl (p_assign rfl rfl) ?_
    refine DL.pu 4 (.bool (decide (t23 ≤ (a0.length : Int)))) rfl (p_assign rfl rfl) ?_
    refine DL.nil ?_
    simp only [Option.some.injEq,Prod.mk.injEq] at h25
    obtain ⟨rfl,rfl,rfl⟩:=h25
    exact retnE (rs:=[.tmp 2,.tmp 3,.tmp 4]) (vs:=[.int .i64 3,.int .i64 t20,.bool (decide (t23 ≤ (a0.length : Int)))]) hE.base Tryd.func56 rfl rfl rfl (res_cons (ResV.tmp rfl) (res_cons (ResV.tmp rfl) (res_cons (ResV.tmp rfl) res_nil))) rfl
   ·
    replace c15:=Bool.eq_false_iff.mpr c15
    have h26:=ite_false c15 h10
    refine TT.cond_false (x:=sub [1,1,1,0,1,0] B56) (y:=sub [1,1,1,0,1,1] B56) rfl c15 ?_
    refine TT.seq (x:=sub [1,1,1,0,1,1,0] B56) (y:=sub [1,1,1,0,1,1,1] B56) ?_
    refine TT.rg [0,1,2,3,4,5,6,7,8] [kp,kp,kp,kp,kp,kp,kp,kp,kp] rfl rfl ?_
    refine DL.mv 27 (a0_v) rfl rfl rfl ?_
    refine DL.pu 28 (elp a0_v ((1 : Int).toNat)) rfl (p_slIx1 ty_u23 ty_s5 (RowV.some hr_a0 (by decide) g5) (by decide) g5 rfl rfl rfl) ?_
    refine DL.imm (v:=.int .u8 (a0.getD ((1 : Int).toNat) 0)) rfl (Wn.none rfl) rfl rfl rfl (i_loadEl (RowV.mono hr_a0 hE.mi) (encl_get .u8 (lt_len (by decide) g5)) ty_a5 rfl rfl) ?_
    refine DL.pu 30 (.bool ((a0.getD ((1 : Int).toNat) 0) == 130)) rfl (p_eql rfl rfl rfl) ?_
    refine DL.mv 31 (.bool ((a0.getD ((1 : Int).toNat) 0) == 130)) rfl rfl rfl ?_
    obtain ⟨q28,h29,h30⟩:=bind_some h26
    refine DL.cut [(0,a0_v),(5,.int .i64 2),(6,.int .i64 (IntKind.i64.wrap (a0.getD ((1 : Int).toNat) 0))),(35,.bool q28)] [] ?_ (fun J31 => ?_)
    ·
     refine DL.nil ?_
     by_cases c35 : q28 = true
     ·
      have h36:=ite_true c35 h30
      refine TT.cond_true (x:=sub [1,1,1,0,1,1,1,0] B56) (y:=sub [1,1,1,0,1,1,1,1] B56) rfl c35 ?_
      refine TT.rgD [0,1,2,3,4,5,6,7,8,9,10,11] [0,1,3,7,15,0,32,96,224,511,0,2047] [kp,kp,kp,kp,kp,kp,kp,kp,kp,kp,kp,kp] rfl mixed (by kernel_rfl) ?_
      intro w37 hl37 hj37 hz37
      refine DL.mv 36 (a0_v) rfl rfl rfl ?_
      obtain ⟨g38,h39⟩:=req_some h36
      refine DL.pu 37 (elp a0_v ((2 : Int).toNat)) rfl (p_slIx1 ty_u23 ty_s5 (RowV.some hr_a0 (by decide) g38) (by decide) g38 rfl rfl rfl) ?_
      refine DL.imm (v:=.int .u8 (a0.getD ((2 : Int).toNat) 0)) rfl (Wn.none rfl) rfl rfl rfl (i_loadEl (RowV.mono hr_a0 hE.mi) (encl_get .u8 (lt_len (by decide) g38)) ty_a5 rfl rfl) ?_
      refine DL.pu 39 (.int .i64 (IntKind.i64.wrap (a0.getD ((2 : Int).toNat) 0))) rfl (p_conv ty_u5 ty_u3 ⟨_,rfl⟩ rfl rfl) ?_
      obtain ⟨t40,e41,h42⟩:=nm_some h39
      refine DL.pu 40 (.int .i64 t40) rfl (by rw [e41]; exact p_mul rfl rfl rfl) ?_
      refine DL.mv 41 (a0_v) rfl rfl rfl ?_
      obtain ⟨g43,h44⟩:=req_some h42
      refine DL.pu 42 (elp a0_v ((3 : Int).toNat)) rfl (p_slIx1 ty_u23 ty_s5 (RowV.some hr_a0 (by decide) g43) (by decide) g43 rfl rfl rfl) ?_
      refine DL.imm (v:=.int .u8 (a0.getD ((3 : Int).toNat) 0)) rfl (Wn.none rfl) rfl rfl rfl (i_loadEl (RowV.mono hr_a0 hE.mi) (encl_get .u8 (lt_len (by decide) g43)) ty_a5 rfl rfl) ?_
      refine DL.pu 44 (.int .i64 (IntKind.i64.wrap (a0.getD ((3 : Int).toNat) 0))) rfl (p_conv ty_u5 ty_u3 ⟨_,rfl⟩ rfl rfl) ?_
      obtain ⟨t45,e46,h47⟩:=nm_some h44
      refine DL.pu 45 (.int .i64 t45) rfl (by rw [e46]; exact p_add rfl rfl rfl) ?_
      refine DL.pu 5 (.int .i64 4) rfl (p_assign rfl rfl) ?_
      refine DL.pu 6 (.int .i64 t45) rfl (p_assign rfl rfl) ?_
      refine DL.nil' hl37 ?_
      refine TT.seq (x:=sub [1,1,1,1,0] B56) (y:=sub [1,1,1,1,1] B56) ?_
      refine TT.rg [0,1,2,3,4,5,6,7,8,9,10,11,12] [kp,kp,kp,kp,kp,kp,kp,kp,kp,kp,kp,kp,kp] rfl rfl ?_
      refine DL.mv 50 (.int .i64 4) rfl rfl rfl ?_
      refine DL.mv 51 (.int .i64 4) rfl rfl rfl ?_
      refine DL.mv 52 (.int .i64 t45) rfl rfl rfl ?_
      refine DL.pu 53 (.int .i64 (IntKind.i64.wrap (4 + t45))) rfl (p_add rfl rfl rfl) ?_
      refine DL.mv 54 (.int .i64 4) rfl rfl rfl ?_
      refine DL.mv 55 (.int .i64 t45) rfl rfl rfl ?_
      refine DL.pu 56 (.int .i64 (IntKind.i64.wrap (4 + t45))) rfl (p_add rfl rfl rfl) ?_
      refine DL.mv 57 (a0_v) rfl rfl rfl ?_
      refine DL.pu 58 (.int .i64 (a0.length : Int)) rfl (p_slLen ty_u23 (RowV.sl hr_a0) rfl rfl) ?_
      obtain ⟨t48,e49,h50⟩:=nm_some h47
      refine DL.pu 59 (.bool t48) rfl (by rw [e49]; exact p_leq rfl rfl rfl) ?_
      refine DL.pu 2 (.int .i64 4) rfl (p_assign rfl rfl) ?_
      refine DL.pu 3 (.int .i64 (IntKind.i64.wrap (4 + t45))) rfl (p_assign rfl rfl) ?_
      refine DL.pu 4 (.bool t48) rfl (p_assign rfl rfl) ?_
      refine DL.nil ?_
      simp only [Option.some.injEq,Prod.mk.injEq] at h50
      obtain ⟨rfl,rfl,rfl⟩:=h50
      exact retnE (rs:=[.tmp 2,.tmp 3,.tmp 4]) (vs:=[.int .i64 4,.int .i64 (IntKind.i64.wrap (4 + t45)),.bool t48]) hE.base Tryd.func56 rfl rfl rfl (res_cons (ResV.tmp rfl) (res_cons (ResV.tmp rfl) (res_cons (ResV.tmp rfl) res_nil))) rfl
     ·
      replace c35:=Bool.eq_false_iff.mpr c35
      have h51:=ite_false c35 h30
      refine TT.cond_false (x:=sub [1,1,1,0,1,1,1,0] B56) (y:=sub [1,1,1,0,1,1,1,1] B56) rfl c35 ?_
      refine TT.seq (x:=sub [1,1,1,0,1,1,1,1,0] B56) (y:=sub [1,1,1,0,1,1,1,1,1] B56) ?_
      refine TT.rg [0,1,2,3] [kp,kp,kp,kp] rfl rfl ?_
      refine DL.mv 46 (a0_v) rfl rfl rfl ?_
      refine DL.pu 47 (elp a0_v ((1 : Int).toNat)) rfl (p_slIx1 ty_u23 ty_s5 (RowV.some hr_a0 (by decide) g5) (by decide) g5 rfl rfl rfl) ?_
      refine DL.imm (v:=.int .u8 (a0.getD ((1 : Int).toNat) 0)) rfl (Wn.none rfl) rfl rfl rfl (i_loadEl (RowV.mono hr_a0 hE.mi) (encl_get .u8 (lt_len (by decide) g5)) ty_a5 rfl rfl) ?_
      refine DL.pu 49 (.bool (decide (128 ≤ (a0.getD ((1 : Int).toNat) 0)))) rfl (p_geq rfl rfl rfl) ?_
      refine DL.nil ?_
      by_cases c52 : (decide (128 ≤ (a0.getD ((1 : Int).toNat) 0))) = true
      ·
       have h53:=ite_true c52 h51
       refine TT.cond_true (x:=sub [1,1,1,0,1,1,1,1,1,0] B56) (y:=sub [1,1,1,0,1,1,1,1,1,1] B56) rfl c52 ?_
       refine TT.seq (x:=sub [1,1,1,0,1,1,1,1,1,0,0] B56) (y:=sub [1,1,1,0,1,1,1,1,1,0,1] B56) ?_
       refine TT.rg [0,1,2] [kp,kp,kp] rfl rfl ?_
       refine DL.pu 2 (.int .i64 0) rfl (p_assign rfl rfl) ?_
       refine DL.pu 3 (.int .i64 0) rfl (p_assign rfl rfl) ?_
       refine DL.pu 4 (.bool false) rfl (p_assign rfl rfl) ?_
       refine DL.nil ?_
       simp only [Option.some.injEq,Prod.mk.injEq] at h53
       obtain ⟨rfl,rfl,rfl⟩:=h53
       exact retnE (rs:=[.tmp 2,.tmp 3,.tmp 4]) (vs:=[.int .i64 0,.int .i64 0,.bool false]) hE.base Tryd.func56 rfl rfl rfl (res_cons (ResV.tmp rfl) (res_cons (ResV.tmp rfl) (res_cons (ResV.tmp rfl) res_nil))) rfl
      ·
       replace c52:=Bool.eq_false_iff.mpr c52
       have h54:=ite_false c52 h51
       refine TT.cond_false (x:=sub [1,1,1,0,1,1,1,1,1,0] B56) (y:=sub [1,1,1,0,1,1,1,1,1,1] B56) rfl c52 ?_
       refine TT.skip ?_
       refine TT.seq (x:=sub [1,1,1,1,0] B56) (y:=sub [1,1,1,1,1] B56) ?_
       refine TT.rg [0,1,2,3,4,5,6,7,8,9,10,11,12] [kp,kp,kp,kp,kp,kp,kp,kp,kp,kp,kp,kp,kp] rfl rfl ?_
       refine DL.mv 50 (.int .i64 2) rfl rfl rfl ?_
       refine DL.mv 51 (.int .i64 2) rfl rfl rfl ?_
       refine DL.mv 52 (.int .i64 (IntKind.i64.wrap (a0.getD ((1 : Int).toNat) 0))) rfl rfl rfl ?_
       obtain ⟨t55,e56,h57⟩:=nm_some h54
       refine DL.pu 53 (.int .i64 t55) rfl (by rw [e56]; exact p_add rfl rfl rfl) ?_
       refine DL.mv 54 (.int .i64 2) rfl rfl rfl ?_
       refine DL.mv 55 (.int .i64 (IntKind.i64.wrap (a0.getD ((1 : Int).toNat) 0))) rfl rfl rfl ?_
       obtain ⟨t58,e59,h60⟩:=nm_some h57
       refine DL.pu 56 (.int .i64 t58) rfl (by rw [e59]; exact p_add rfl rfl rfl) ?_
       refine DL.mv 57 (a0_v) rfl rfl rfl ?_
       refine DL.pu 58 (.int .i64 (a0.length : Int)) rfl (p_slLen ty_u23 (RowV.sl hr_a0) rfl rfl) ?_
       refine DL.pu 59 (.bool (decide (t58 ≤ (a0.length : Int)))) rfl (p_leq rfl rfl rfl) ?_
       refine DL.pu 2 (.int .i64 2) rfl (p_assign rfl rfl) ?_
       refine DL.pu 3 (.int .i64 t55) rfl (p_assign rfl rfl) ?_
       refine DL.pu 4 (.bool (decide (t58 ≤ (a0.length : Int)))) rfl (p_assign rfl rfl) ?_
       refine DL.nil ?_
       simp only [Option.some.injEq,Prod.mk.injEq] at h60
       obtain ⟨rfl,rfl,rfl⟩:=h60
       exact retnE (rs:=[.tmp 2,.tmp 3,.tmp 4]) (vs:=[.int .i64 2,.int .i64 t55,.bool (decide (t58 ≤ (a0.length : Int)))]) hE.base Tryd.func56 rfl rfl rfl (res_cons (ResV.tmp rfl) (res_cons (ResV.tmp rfl) (res_cons (ResV.tmp rfl) res_nil))) rfl
    ·
     by_cases c32 : ((a0.getD ((1 : Int).toNat) 0) == 130) = true
     ·
      have h33:=ite_true c32 h29
      refine DL.pure (v:=a0_v) rfl (Wn.yes c32 rfl rfl rfl rfl) rfl rfl rfl (p_move rfl rfl) ?_
      refine DL.pure (v:=.int .i64 (a0.length : Int)) rfl (Wn.yes c32 rfl rfl rfl rfl) rfl rfl rfl (p_slLen ty_u23 (RowV.sl hr_a0) rfl rfl) ?_
      refine DL.pure (v:=.bool (decide (4 ≤ (a0.length : Int)))) rfl (Wn.yes c32 rfl rfl rfl rfl) rfl rfl rfl (p_geq rfl rfl rfl) ?_
      refine DL.pu 35 (.bool (decide (4 ≤ (a0.length : Int)))) rfl (p_pick_t c32 rfl rfl rfl) ?_
      obtain rfl:=Option.some.inj h33
      exact DL.weak J31 (Sub.cons rfl (Sub.cons rfl (Sub.cons rfl (Sub.cons rfl (Sub.nil _)))))
     ·
      replace c32:=Bool.eq_false_iff.mpr c32
      have h34:=ite_false c32 h29
      refine DL.not (i:=5) rfl (Wn.no c32 rfl rfl rfl rfl) rfl rfl ?_
      refine DL.not (i:=6) rfl (Wn.no c32 rfl rfl rfl rfl) rfl rfl ?_
      refine DL.not (i:=7) rfl (Wn.no c32 rfl rfl rfl rfl) rfl rfl ?_
      refine DL.pu 35 (.bool false) rfl (p_pick_f c32 rfl rfl rfl) ?_
      obtain rfl:=Option.some.inj h34
      exact DL.weak J31 (Sub.cons rfl (Sub.cons rfl (Sub.cons rfl (Sub.cons rfl (Sub.nil _)))))
  ·
   by_cases c12 : ((a0.getD ((1 : Int).toNat) 0) == 129) = true
   ·
    have h13:=ite_true c12 h9
    refine DL.pure (v:=a0_v) rfl (Wn.yes c12 rfl rfl rfl rfl) rfl rfl rfl (p_move rfl rfl) ?_
    refine DL.pure (v:=.int .i64 (a0.length : Int)) rfl (Wn.yes c12 rfl rfl rfl rfl) rfl rfl rfl (p_slLen ty_u23 (RowV.sl hr_a0) rfl rfl) ?_
    refine DL.pure (v:=.bool (decide (3 ≤ (a0.length : Int)))) rfl (Wn.yes c12 rfl rfl rfl rfl) rfl rfl rfl (p_geq rfl rfl rfl) ?_
    refine DL.pu 22 (.bool (decide (3 ≤ (a0.length : Int)))) rfl (p_pick_t c12 rfl rfl rfl) ?_
    obtain rfl:=Option.some.inj h13
    exact DL.weak J11 (Sub.cons rfl (Sub.cons rfl (Sub.cons rfl (Sub.cons rfl (Sub.nil _)))))
   ·
    replace c12:=Bool.eq_false_iff.mpr c12
    have h14:=ite_false c12 h9
    refine DL.not (i:=5) rfl (Wn.no c12 rfl rfl rfl rfl) rfl rfl ?_
    refine DL.not (i:=6) rfl (Wn.no c12 rfl rfl rfl rfl) rfl rfl ?_
    refine DL.not (i:=7) rfl (Wn.no c12 rfl rfl rfl rfl) rfl rfl ?_
    refine DL.pu 22 (.bool false) rfl (p_pick_f c12 rfl rfl rfl) ?_
    obtain rfl:=Option.some.inj h14
    exact DL.weak J11 (Sub.cons rfl (Sub.cons rfl (Sub.cons rfl (Sub.cons rfl (Sub.nil _)))))
theorem ref13_head.val {a0 : List Int} {a0_v : Value} {r_0 : Int} {r_1 : Int} {r_2 : Bool} (h : ref13_head.f a0 = some (r_0,r_1,r_2)) {M : Mem} (w : World) (hM : Ext M (heapOf w)) (hr_a0 : IntRow M .u8 a0_v a0) : Calls Tryd.prog 56 #[a0_v] w fun e w' => e = .returned (.tuple #[.int .i64 r_0,.int .i64 r_1,.bool r_2]) ∧ Below w.heap.size w w' :=
 calls_value (ref13_head.ok h w hM hr_a0)

/-! ### escutcheon/escutcheonref13.number: function 57 -/
noncomputable def B57 : Code:=bodyOf Tryd.f57
def ref13_number.L0 (a0 : List Int) : Nat → Int → Int → Option (Int)
 | 0,_,_ => none
 | k + 1,x3_1,x4_2 => (if (decide (x4_2 < (a0.length : Int))) = true then (some (decide (x4_2 < 8))) else (some false)).bind fun q91 => if q91 = true then ((if (x4_2 == 0) = true then (req ((0 : Int) < (a0.length : Int)) (some (decide (128 ≤ (a0.getD ((0 : Int).toNat) 0))))) else (some false)).bind fun q101 => (if q101 = true then (some 72057594037927935) else (some x3_1)).bind fun j3_111 => req (0 ≤ x4_2) (req (x4_2 < (a0.length : Int)) (nm (IntKind.u64.wrap ((IntKind.u64.wrap (j3_111 * 256)) + (IntKind.u64.wrap (a0.getD x4_2.toNat 0)))) fun t122 => ref13_number.L0 a0 k t122 (IntKind.i64.wrap (x4_2 + 1))))) else (some x3_1)
set_option maxRecDepth 20000 in
theorem ref13_number.L0_ok (a0 : List Int) (a0_v : Value) {R : Ending → World → Prop} {w0 : World} {M0 M I : Mem} {K : List Item} (hE : Env w0 M0 M I) (hr_a0 : IntRow M .u8 a0_v a0) :
  ∀ (k : Nat) (x3_1 : Int) (x4_2 : Int) (r0_ : Int) (h : ref13_number.L0 a0 k x3_1 x4_2 = some r0_) (hk : TT Tryd.prog 57 R 33 w0 I K [(3,.int .u64 r0_)] []),
   TT Tryd.prog 57 R 33 w0 I (.code (sub [1,1,0,1,0,0] B57) :: .inLoop (sub [1,1,0,1,0,0] B57) :: .inBlock 0 :: K) [(0,a0_v),(3,.int .u64 x3_1),(4,.int .i64 x4_2)] []:=by
 intro k
 induction k with
 | zero => intro x3_1 x4_2 r0_ h; simp [ref13_number.L0] at h
 | succ k ih =>
  intro x3_1 x4_2 r0_ h hk
  unfold ref13_number.L0 at h
  refine TT.seq (x:=sub [1,1,0,1,0,0,0] B57) (y:=sub [1,1,0,1,0,0,1] B57) ?_
  refine TT.seq (x:=sub [1,1,0,1,0,0,0,0] B57) (y:=sub [1,1,0,1,0,0,0,1] B57) ?_
  refine TT.rg [0,1,2,3,4,5,6,7] [kp,kp,kp,kp,kp,kp,kp,kp] rfl rfl ?_
  refine DL.mv 5 (.int .i64 x4_2) rfl rfl rfl ?_
  refine DL.mv 6 (a0_v) rfl rfl rfl ?_
  refine DL.pu 7 (.int .i64 (a0.length : Int)) rfl (p_slLen ty_u23 (RowV.sl hr_a0) rfl rfl) ?_
  refine DL.pu 8 (.bool (decide (x4_2 < (a0.length : Int)))) rfl (p_lss rfl rfl rfl) ?_
  refine DL.mv 9 (.bool (decide (x4_2 < (a0.length : Int)))) rfl rfl rfl ?_
  obtain ⟨q91,h92,h93⟩:=bind_some h
  refine DL.cut [(0,a0_v),(3,.int .u64 x3_1),(4,.int .i64 x4_2),(12,.bool q91)] [] ?_ (fun J94 => ?_)
  ·
   refine DL.nil ?_
   by_cases c98 : q91 = true
   ·
    have h99:=ite_true c98 h93
    refine TT.cond_true (x:=sub [1,1,0,1,0,0,0,1,0] B57) (y:=sub [1,1,0,1,0,0,0,1,1] B57) rfl c98 ?_
    refine TT.skip ?_
    refine TT.seq (x:=sub [1,1,0,1,0,0,1,0] B57) (y:=sub [1,1,0,1,0,0,1,1] B57) ?_
    refine TT.block (c:=sub [1,1,0,1,0,0,1,0,0] B57) ?_
    refine TT.seq (x:=sub [1,1,0,1,0,0,1,0,0,0] B57) (y:=sub [1,1,0,1,0,0,1,0,0,1] B57) ?_
    refine TT.seq (x:=sub [1,1,0,1,0,0,1,0,0,0,0] B57) (y:=sub [1,1,0,1,0,0,1,0,0,0,1] B57) ?_
    refine TT.rg [0,1,2,3,4,5,6,7] [kp,kp,kp,kp,kp,kp,kp,kp] rfl rfl ?_
    refine DL.mv 15 (.int .i64 x4_2) rfl rfl rfl ?_
    refine DL.pu 16 (.bool (x4_2 == 0)) rfl (p_eql rfl rfl rfl) ?_
    refine DL.mv 17 (.bool (x4_2 == 0)) rfl rfl rfl ?_
    obtain ⟨q101,h102,h103⟩:=bind_some h99
    refine DL.cut [(0,a0_v),(3,.int .u64 x3_1),(4,.int .i64 x4_2),(22,.bool q101)] [] ?_ (fun J104 => ?_)
    ·
     refine DL.nil ?_
     obtain ⟨j3_111,h112,h113⟩:=bind_some h103
     have J114 : TT Tryd.prog 57 R 33 w0 I (.code (sub [1,1,0,1,0,0,1,0,0,1] B57) :: .inBlock 1 :: .code (sub [1,1,0,1,0,0,1,1] B57) :: .inLoop (sub [1,1,0,1,0,0] B57) :: .inBlock 0 :: K) [(0,a0_v),(3,.int .u64 j3_111),(4,.int .i64 x4_2)] []:=by
      refine TT.rg [0,1,2,3,4,5,6,7,8] [kp,kp,kp,kp,kp,kp,kp,kp,kp] rfl rfl ?_
      refine DL.mv 23 (.int .u64 j3_111) rfl rfl rfl ?_
      refine DL.pu 24 (.int .u64 (IntKind.u64.wrap (j3_111 * 256))) rfl (p_mul rfl rfl rfl) ?_
      refine DL.mv 25 (a0_v) rfl rfl rfl ?_
      refine DL.mv 26 (.int .i64 x4_2) rfl rfl rfl ?_
      obtain ⟨g118,h119⟩:=req_some h113
      obtain ⟨g120,h121⟩:=req_some h119
      refine DL.pu 27 (elp a0_v x4_2.toNat) rfl (p_slIx1 ty_u23 ty_s5 (RowV.some hr_a0 g118 g120) g118 g120 rfl rfl rfl) ?_
      refine DL.imm (v:=.int .u8 (a0.getD x4_2.toNat 0)) rfl (Wn.none rfl) rfl rfl rfl (i_loadEl (RowV.mono hr_a0 hE.mi) (encl_get .u8 (lt_len g118 g120)) ty_a5 rfl rfl) ?_
      refine DL.pu 29 (.int .u64 (IntKind.u64.wrap (a0.getD x4_2.toNat 0))) rfl (p_conv ty_u5 ty_u50 ⟨_,rfl⟩ rfl rfl) ?_
      obtain ⟨t122,e123,h124⟩:=nm_some h121
      refine DL.pu 30 (.int .u64 t122) rfl (by rw [e123]; exact p_add rfl rfl rfl) ?_
      refine DL.pu 3 (.int .u64 t122) rfl (p_assign rfl rfl) ?_
      refine DL.nil ?_
      refine TT.inBlock ?_
      refine TT.rg [0,1,2] [kp,kp,kp] rfl rfl ?_
      refine DL.mv 13 (.int .i64 x4_2) rfl rfl rfl ?_
      refine DL.pu 14 (.int .i64 (IntKind.i64.wrap (x4_2 + 1))) rfl (p_add rfl rfl rfl) ?_
      refine DL.pu 4 (.int .i64 (IntKind.i64.wrap (x4_2 + 1))) rfl (p_assign rfl rfl) ?_
      refine DL.nil ?_
      refine TT.inLoop ?_
      exact TT.weak (ih t122 (IntKind.i64.wrap (x4_2 + 1)) r0_ h124 hk) (Sub.cons rfl (Sub.cons rfl (Sub.cons rfl (Sub.nil _))))
     by_cases c110 : q101 = true
     ·
      have h116:=ite_true c110 h112
      refine TT.cond_true (x:=sub [1,1,0,1,0,0,1,0,0,0,1,0] B57) (y:=sub [1,1,0,1,0,0,1,0,0,0,1,1] B57) rfl c110 ?_
      refine TT.rg [0] [kp] rfl rfl ?_
      refine DL.pu 3 (.int .u64 72057594037927935) rfl (p_assign rfl rfl) ?_
      refine DL.nil ?_
      obtain rfl:=Option.some.inj h116
      exact TT.weak (J114 ) (Sub.cons rfl (Sub.cons rfl (Sub.cons rfl (Sub.nil _))))
     ·
      replace c110:=Bool.eq_false_iff.mpr c110
      have h117:=ite_false c110 h112
      refine TT.cond_false (x:=sub [1,1,0,1,0,0,1,0,0,0,1,0] B57) (y:=sub [1,1,0,1,0,0,1,0,0,0,1,1] B57) rfl c110 ?_
      refine TT.skip ?_
      obtain rfl:=Option.some.inj h117
      exact TT.weak (J114 ) (Sub.cons rfl (Sub.cons rfl (Sub.cons rfl (Sub.nil _))))
    ·
     by_cases c105 : (x4_2 == 0) = true
     ·
      have h106:=ite_true c105 h102
      refine DL.pure (v:=a0_v) rfl (Wn.yes c105 rfl rfl rfl rfl) rfl rfl rfl (p_move rfl rfl) ?_
      obtain ⟨g107,h108⟩:=req_some h106
      refine DL.pure (v:=elp a0_v ((0 : Int).toNat)) rfl (Wn.yes c105 rfl rfl rfl rfl) rfl rfl rfl (p_slIx1 ty_u23 ty_s5 (RowV.some hr_a0 (by decide) g107) (by decide) g107 rfl rfl rfl) ?_
      refine DL.imm (v:=.int .u8 (a0.getD ((0 : Int).toNat) 0)) rfl (Wn.yes c105 rfl rfl rfl rfl) rfl rfl rfl (i_loadEl (RowV.mono hr_a0 hE.mi) (encl_get .u8 (lt_len (by decide) g107)) ty_a5 rfl rfl) ?_
      refine DL.pure (v:=.bool (decide (128 ≤ (a0.getD ((0 : Int).toNat) 0)))) rfl (Wn.yes c105 rfl rfl rfl rfl) rfl rfl rfl (p_geq rfl rfl rfl) ?_
      refine DL.pu 22 (.bool (decide (128 ≤ (a0.getD ((0 : Int).toNat) 0)))) rfl (p_pick_t c105 rfl rfl rfl) ?_
      obtain rfl:=Option.some.inj h108
      exact DL.weak J104 (Sub.cons rfl (Sub.cons rfl (Sub.cons rfl (Sub.cons rfl (Sub.nil _)))))
     ·
      replace c105:=Bool.eq_false_iff.mpr c105
      have h109:=ite_false c105 h102
      refine DL.not (i:=3) rfl (Wn.no c105 rfl rfl rfl rfl) rfl rfl ?_
      refine DL.not (i:=4) rfl (Wn.no c105 rfl rfl rfl rfl) rfl rfl ?_
      refine DL.not (i:=5) rfl (Wn.no c105 rfl rfl rfl rfl) rfl rfl ?_
      refine DL.not (i:=6) rfl (Wn.no c105 rfl rfl rfl rfl) rfl rfl ?_
      refine DL.pu 22 (.bool false) rfl (p_pick_f c105 rfl rfl rfl) ?_
      obtain rfl:=Option.some.inj h109
      exact DL.weak J104 (Sub.cons rfl (Sub.cons rfl (Sub.cons rfl (Sub.cons rfl (Sub.nil _)))))
   ·
    replace c98:=Bool.eq_false_iff.mpr c98
    have h125:=ite_false c98 h93
    refine TT.cond_false (x:=sub [1,1,0,1,0,0,0,1,0] B57) (y:=sub [1,1,0,1,0,0,0,1,1] B57) rfl c98 ?_
    refine TT.exit rfl ?_
    obtain rfl:=Option.some.inj h125
    exact TT.weak (hk) (Sub.cons rfl (Sub.nil _))
  ·
   by_cases c95 : (decide (x4_2 < (a0.length : Int))) = true
   ·
    have h96:=ite_true c95 h92
    refine DL.pure (v:=.int .i64 x4_2) rfl (Wn.yes c95 rfl rfl rfl rfl) rfl rfl rfl (p_move rfl rfl) ?_
    refine DL.pure (v:=.bool (decide (x4_2 < 8))) rfl (Wn.yes c95 rfl rfl rfl rfl) rfl rfl rfl (p_lss rfl rfl rfl) ?_
    refine DL.pu 12 (.bool (decide (x4_2 < 8))) rfl (p_pick_t c95 rfl rfl rfl) ?_
    obtain rfl:=Option.some.inj h96
    exact DL.weak J94 (Sub.cons rfl (Sub.cons rfl (Sub.cons rfl (Sub.cons rfl (Sub.nil _)))))
   ·
    replace c95:=Bool.eq_false_iff.mpr c95
    have h97:=ite_false c95 h92
    refine DL.not (i:=5) rfl (Wn.no c95 rfl rfl rfl rfl) rfl rfl ?_
    refine DL.not (i:=6) rfl (Wn.no c95 rfl rfl rfl rfl) rfl rfl ?_
    refine DL.pu 12 (.bool false) rfl (p_pick_f c95 rfl rfl rfl) ?_
    obtain rfl:=Option.some.inj h97
    exact DL.weak J94 (Sub.cons rfl (Sub.cons rfl (Sub.cons rfl (Sub.cons rfl (Sub.nil _)))))

def ref13_number.f (a0 : List Int) : Option (Int):=(ref13_number.L0 a0 ((8 : Int).toNat + 1) 0 0).bind fun z3_89 => some (IntKind.i64.wrap z3_89)
set_option maxRecDepth 20000 in
theorem ref13_number.ok {a0 : List Int} {a0_v : Value} {r : Int} (h : ref13_number.f a0 = some r) {M : Mem} (w : World) (hM : Ext M (heapOf w)) (hr_a0 : IntRow M .u8 a0_v a0) : Calls Tryd.prog 57 #[a0_v] w (Post (fun u => u = .int .i64 r) w):=by
 unfold ref13_number.f at h
 have hE:=Env.start hM
 refine calls_of_TT (N:=33) (S:=[(0,a0_v)]) (c:=B57) Tryd.func57 rfl rfl rfl (by simp) ?_
 show TT _ _ _ _ _ _ [.code (sub [] B57)] _ _
 refine TT.seq (x:=sub [0] B57) (y:=sub [1] B57) ?_
 refine TT.rg [0] [kp] rfl rfl ?_
 refine DL.pu 2 (.int .i64 0) rfl (p_assign rfl rfl) ?_
 refine DL.nil ?_
 refine TT.seq (x:=sub [1,0] B57) (y:=sub [1,1] B57) ?_
 refine TT.rg [0] [kp] rfl rfl ?_
 refine DL.pu 3 (.int .u64 0) rfl (p_assign rfl rfl) ?_
 refine DL.nil ?_
 refine TT.seq (x:=sub [1,1,0] B57) (y:=sub [1,1,1] B57) ?_
 refine TT.seq (x:=sub [1,1,0,0] B57) (y:=sub [1,1,0,1] B57) ?_
 refine TT.rg [0] [kp] rfl rfl ?_
 refine DL.pu 4 (.int .i64 0) rfl (p_assign rfl rfl) ?_
 refine DL.nil ?_
 refine TT.block (c:=sub [1,1,0,1,0] B57) ?_
 refine TT.loop (c:=sub [1,1,0,1,0,0] B57) ?_
 obtain ⟨z3_89,h126,h127⟩:=bind_some h
 refine TT.weak (ref13_number.L0_ok a0 a0_v hE hr_a0 ((8 : Int).toNat + 1) 0 0 z3_89 h126 ( ?_)) (Sub.cons rfl (Sub.cons rfl (Sub.cons rfl (Sub.nil _))))
 refine TT.seq (x:=sub [1,1,1,0] B57) (y:=sub [1,1,1,1] B57) ?_
 refine TT.rg [0,1,2] [kp,kp,kp] rfl rfl ?_
 refine DL.mv 31 (.int .u64 z3_89) rfl rfl rfl ?_
 refine DL.pu 32 (.int .i64 (IntKind.i64.wrap z3_89)) rfl (p_conv ty_u50 ty_u2 ⟨_,rfl⟩ rfl rfl) ?_
 refine DL.pu 2 (.int .i64 (IntKind.i64.wrap z3_89)) rfl (p_assign rfl rfl) ?_
 refine DL.nil ?_
 obtain rfl:=Option.some.inj h127
 exact retnE (rs:=[.tmp 2]) (vs:=[.int .i64 (IntKind.i64.wrap z3_89)]) hE.base Tryd.func57 rfl rfl rfl (res_cons (ResV.tmp rfl) res_nil) rfl
theorem ref13_number.val {a0 : List Int} {a0_v : Value} {r : Int} (h : ref13_number.f a0 = some r) {M : Mem} (w : World) (hM : Ext M (heapOf w)) (hr_a0 : IntRow M .u8 a0_v a0) : Calls Tryd.prog 57 #[a0_v] w fun e w' => e = .returned (.int .i64 r) ∧ Below w.heap.size w w' :=
 calls_value (ref13_number.ok h w hM hr_a0)

/-! ### escutcheon/escutcheonref13.arcs: function 58 -/
noncomputable def B58 : Code:=bodyOf Tryd.f58
def ref13_arcs.L0 (a0 : List Int) : Nat → (List Int) → Int → Int → Option (List Int)
 | 0,_,_,_ => none
 | k + 1,y_2,x4_3,x5_4 => if (decide (x5_4 < (a0.length : Int))) = true then (nm (IntKind.u64.wrap ((Int.tmod x4_3 1125899906842624) * 128)) fun t106 => req (0 ≤ x5_4) (req (x5_4 < (a0.length : Int)) (nm (IntKind.u64.wrap (Int.tmod (a0.getD x5_4.toNat 0) 128)) fun t113 => if (decide (128 ≤ (a0.getD x5_4.toNat 0))) = true then (ref13_arcs.L0 a0 k y_2 (IntKind.u64.wrap (t106 + t113)) (IntKind.i64.wrap (x5_4 + 1))) else ((if ((y_2.length : Int) == 0) = true then (nm (IntKind.u64.wrap (Int.tdiv (IntKind.u64.wrap (t106 + t113)) 40)) fun t126 => (if (decide (2 < t126)) = true then (some 2) else (some t126)).bind fun j6_130 => nm (IntKind.u64.wrap ((IntKind.u64.wrap (t106 + t113)) - (IntKind.u64.wrap (40 * j6_130)))) fun t137 => req (y_2.length + [j6_130,t137].length ≤ 1099511627776) (some (y_2 ++ [j6_130,t137]))) else (req (y_2.length + [IntKind.u64.wrap (t106 + t113)].length ≤ 1099511627776) (some (y_2 ++ [IntKind.u64.wrap (t106 + t113)])))).bind fun j_o1_120 => ref13_arcs.L0 a0 k j_o1_120 0 (IntKind.i64.wrap (x5_4 + 1)))))) else (some y_2)
set_option maxRecDepth 20000 in
theorem ref13_arcs.L0_ok (a0 : List Int) (a0_v : Value) {R : Ending → World → Prop} {w0 : World} {M0 M I : Mem} {K : List Item} (hE : Env w0 M0 M I) (hr_a0 : IntRow M .u8 a0_v a0) :
  ∀ (k : Nat) (y_2 : List Int) (x4_3 : Int) (x5_4 : Int) (y_2_v : Value) (y_2_c : Array Value) (r0_ : List Int) (ho_y_2 : IntOwn .u64 y_2_v y_2_c y_2) (h : ref13_arcs.L0 a0 k y_2 x4_3 x5_4 = some r0_) (hk : ∀ (z_o1_103_v : Value),∀ (z_o1_103_c : Array Value),IntOwn .u64 z_o1_103_v z_o1_103_c r0_ → TT Tryd.prog 58 R 48 w0 I K [(3,z_o1_103_v)] [(Value.ownBlock z_o1_103_v,.cells z_o1_103_c 50 (0,0))]),
   TT Tryd.prog 58 R 48 w0 I (.code (sub [1,1,1,0,1,0,0] B58) :: .inLoop (sub [1,1,1,0,1,0,0] B58) :: .inBlock 0 :: K) [(0,a0_v),(3,y_2_v),(4,.int .u64 x4_3),(5,.int .i64 x5_4)] [(Value.ownBlock y_2_v,.cells y_2_c 50 (0,0))]:=by
 intro k
 induction k with
 | zero => intro y_2 x4_3 x5_4 y_2_v y_2_c r0_ ho_y_2 h; simp [ref13_arcs.L0] at h
 | succ k ih =>
  intro y_2 x4_3 x5_4 y_2_v y_2_c r0_ ho_y_2 h hk
  unfold ref13_arcs.L0 at h
  refine TT.seq (x:=sub [1,1,1,0,1,0,0,0] B58) (y:=sub [1,1,1,0,1,0,0,1] B58) ?_
  refine TT.seq (x:=sub [1,1,1,0,1,0,0,0,0] B58) (y:=sub [1,1,1,0,1,0,0,0,1] B58) ?_
  refine TT.rg [0,1,2,3] [kp,kp,kp,kp] rfl rfl ?_
  refine DL.mv 7 (.int .i64 x5_4) rfl rfl rfl ?_
  refine DL.mv 8 (a0_v) rfl rfl rfl ?_
  refine DL.pu 9 (.int .i64 (a0.length : Int)) rfl (p_slLen ty_u23 (RowV.sl hr_a0) rfl rfl) ?_
  refine DL.pu 10 (.bool (decide (x5_4 < (a0.length : Int)))) rfl (p_lss rfl rfl rfl) ?_
  refine DL.nil ?_
  by_cases c104 : (decide (x5_4 < (a0.length : Int))) = true
  ·
   have h105:=ite_true c104 h
   refine TT.cond_true (x:=sub [1,1,1,0,1,0,0,0,1,0] B58) (y:=sub [1,1,1,0,1,0,0,0,1,1] B58) rfl c104 ?_
   refine TT.skip ?_
   refine TT.seq (x:=sub [1,1,1,0,1,0,0,1,0] B58) (y:=sub [1,1,1,0,1,0,0,1,1] B58) ?_
   refine TT.block (c:=sub [1,1,1,0,1,0,0,1,0,0] B58) ?_
   refine TT.seq (x:=sub [1,1,1,0,1,0,0,1,0,0,0] B58) (y:=sub [1,1,1,0,1,0,0,1,0,0,1] B58) ?_
   refine TT.rg [0,1,2,3,4,5,6,7,8,9,10] [kp,kp,kp,kp,kp,kp,kp,kp,kp,kp,kp] rfl rfl ?_
   refine DL.mv 13 (.int .u64 x4_3) rfl rfl rfl ?_
   refine DL.pu 14 (.int .u64 (Int.tmod x4_3 1125899906842624)) rfl (p_rem (by decide) rfl rfl rfl) ?_
   obtain ⟨t106,e107,h108⟩:=nm_some h105
   refine DL.pu 15 (.int .u64 t106) rfl (by rw [e107]; exact p_mul rfl rfl rfl) ?_
   refine DL.mv 16 (a0_v) rfl rfl rfl ?_
   refine DL.mv 17 (.int .i64 x5_4) rfl rfl rfl ?_
   obtain ⟨g109,h110⟩:=req_some h108
   obtain ⟨g111,h112⟩:=req_some h110
   refine DL.pu 18 (elp a0_v x5_4.toNat) rfl (p_slIx1 ty_u23 ty_s5 (RowV.some hr_a0 g109 g111) g109 g111 rfl rfl rfl) ?_
   refine DL.imm (v:=.int .u8 (a0.getD x5_4.toNat 0)) rfl (Wn.none rfl) rfl rfl rfl (i_loadEl (RowV.mono hr_a0 hE.mi) (encl_get .u8 (lt_len g109 g111)) ty_a5 rfl rfl) ?_
   refine DL.pu 20 (.int .u8 (Int.tmod (a0.getD x5_4.toNat 0) 128)) rfl (p_rem (by decide) rfl rfl rfl) ?_
   obtain ⟨t113,e114,h115⟩:=nm_some h112
   refine DL.pu 21 (.int .u64 t113) rfl (by rw [e114]; exact p_conv ty_u5 ty_u50 ⟨_,rfl⟩ rfl rfl) ?_
   refine DL.pu 22 (.int .u64 (IntKind.u64.wrap (t106 + t113))) rfl (p_add rfl rfl rfl) ?_
   refine DL.pu 4 (.int .u64 (IntKind.u64.wrap (t106 + t113))) rfl (p_assign rfl rfl) ?_
   refine DL.nil ?_
   refine TT.seq (x:=sub [1,1,1,0,1,0,0,1,0,0,1,0] B58) (y:=sub [1,1,1,0,1,0,0,1,0,0,1,1] B58) ?_
   refine TT.seq (x:=sub [1,1,1,0,1,0,0,1,0,0,1,0,0] B58) (y:=sub [1,1,1,0,1,0,0,1,0,0,1,0,1] B58) ?_
   refine TT.rg [0,1,2,3,4] [kp,kp,kp,kp,kp] rfl rfl ?_
   refine DL.mv 23 (a0_v) rfl rfl rfl ?_
   refine DL.mv 24 (.int .i64 x5_4) rfl rfl rfl ?_
   refine DL.pu 25 (elp a0_v x5_4.toNat) rfl (p_slIx1 ty_u23 ty_s5 (RowV.some hr_a0 g109 g111) g109 g111 rfl rfl rfl) ?_
   refine DL.imm (v:=.int .u8 (a0.getD x5_4.toNat 0)) rfl (Wn.none rfl) rfl rfl rfl (i_loadEl (RowV.mono hr_a0 hE.mi) (encl_get .u8 (lt_len g109 g111)) ty_a5 rfl rfl) ?_
   refine DL.pu 27 (.bool (decide (128 ≤ (a0.getD x5_4.toNat 0)))) rfl (p_geq rfl rfl rfl) ?_
   refine DL.nil ?_
   by_cases c116 : (decide (128 ≤ (a0.getD x5_4.toNat 0))) = true
   ·
    have h117:=ite_true c116 h115
    refine TT.cond_true (x:=sub [1,1,1,0,1,0,0,1,0,0,1,0,1,0] B58) (y:=sub [1,1,1,0,1,0,0,1,0,0,1,0,1,1] B58) rfl c116 ?_
    refine TT.exit rfl ?_
    refine TT.rg [0,1,2] [kp,kp,kp] rfl rfl ?_
    refine DL.mv 11 (.int .i64 x5_4) rfl rfl rfl ?_
    refine DL.pu 12 (.int .i64 (IntKind.i64.wrap (x5_4 + 1))) rfl (p_add rfl rfl rfl) ?_
    refine DL.pu 5 (.int .i64 (IntKind.i64.wrap (x5_4 + 1))) rfl (p_assign rfl rfl) ?_
    refine DL.nil ?_
    refine TT.inLoop ?_
    exact TT.weak (ih y_2 (IntKind.u64.wrap (t106 + t113)) (IntKind.i64.wrap (x5_4 + 1)) y_2_v y_2_c r0_ ho_y_2 h117 hk) (Sub.cons rfl (Sub.cons rfl (Sub.cons rfl (Sub.cons rfl (Sub.nil _)))))
   ·
    replace c116:=Bool.eq_false_iff.mpr c116
    have h118:=ite_false c116 h115
    refine TT.cond_false (x:=sub [1,1,1,0,1,0,0,1,0,0,1,0,1,0] B58) (y:=sub [1,1,1,0,1,0,0,1,0,0,1,0,1,1] B58) rfl c116 ?_
    refine TT.skip ?_
    refine TT.seq (x:=sub [1,1,1,0,1,0,0,1,0,0,1,1,0] B58) (y:=sub [1,1,1,0,1,0,0,1,0,0,1,1,1] B58) ?_
    refine TT.seq (x:=sub [1,1,1,0,1,0,0,1,0,0,1,1,0,0] B58) (y:=sub [1,1,1,0,1,0,0,1,0,0,1,1,0,1] B58) ?_
    refine TT.rg [0,1,2] [kp,kp,kp] rfl rfl ?_
    refine DL.mv 28 (y_2_v) rfl rfl rfl ?_
    refine DL.pu 29 (.int .i64 (y_2.length : Int)) rfl (p_slLen ty_u24 (OwnV.sl ho_y_2) rfl rfl) ?_
    refine DL.pu 30 (.bool ((y_2.length : Int) == 0)) rfl (p_eql rfl rfl rfl) ?_
    refine DL.nil ?_
    obtain ⟨j_o1_120,h121,h122⟩:=bind_some h118
    have J123 : ∀ (j_o1_120_v : Value),∀ (j_o1_120_c : Array Value),IntOwn .u64 j_o1_120_v j_o1_120_c j_o1_120 → TT Tryd.prog 58 R 48 w0 I (.code (sub [1,1,1,0,1,0,0,1,0,0,1,1,1] B58) :: .inBlock 1 :: .code (sub [1,1,1,0,1,0,0,1,1] B58) :: .inLoop (sub [1,1,1,0,1,0,0] B58) :: .inBlock 0 :: K) [(0,a0_v),(3,j_o1_120_v),(5,.int .i64 x5_4)] [(Value.ownBlock j_o1_120_v,.cells j_o1_120_c 50 (0,0))]:=by
     intro j_o1_120_v j_o1_120_c ho_j_o1_120
     refine TT.rg [0] [kp] rfl rfl ?_
     refine DL.pu 4 (.int .u64 0) rfl (p_assign rfl rfl) ?_
     refine DL.nil ?_
     refine TT.inBlock ?_
     refine TT.rg [0,1,2] [kp,kp,kp] rfl rfl ?_
     refine DL.mv 11 (.int .i64 x5_4) rfl rfl rfl ?_
     refine DL.pu 12 (.int .i64 (IntKind.i64.wrap (x5_4 + 1))) rfl (p_add rfl rfl rfl) ?_
     refine DL.pu 5 (.int .i64 (IntKind.i64.wrap (x5_4 + 1))) rfl (p_assign rfl rfl) ?_
     refine DL.nil ?_
     refine TT.inLoop ?_
     exact TT.weak (ih j_o1_120 0 (IntKind.i64.wrap (x5_4 + 1)) j_o1_120_v j_o1_120_c r0_ ho_j_o1_120 h122 hk) (Sub.cons rfl (Sub.cons rfl (Sub.cons rfl (Sub.cons rfl (Sub.nil _)))))
    by_cases c119 : ((y_2.length : Int) == 0) = true
    ·
     have h125:=ite_true c119 h121
     refine TT.cond_true (x:=sub [1,1,1,0,1,0,0,1,0,0,1,1,0,1,0] B58) (y:=sub [1,1,1,0,1,0,0,1,0,0,1,1,0,1,1] B58) rfl c119 ?_
     refine TT.seq (x:=sub [1,1,1,0,1,0,0,1,0,0,1,1,0,1,0,0] B58) (y:=sub [1,1,1,0,1,0,0,1,0,0,1,1,0,1,0,1] B58) ?_
     refine TT.rg [0,1,2] [kp,kp,kp] rfl rfl ?_
     refine DL.mv 31 (.int .u64 (IntKind.u64.wrap (t106 + t113))) rfl rfl rfl ?_
     obtain ⟨t126,e127,h128⟩:=nm_some h125
     refine DL.pu 32 (.int .u64 t126) rfl (by rw [e127]; exact p_quo (by decide) rfl rfl rfl) ?_
     refine DL.pu 6 (.int .u64 t126) rfl (p_assign rfl rfl) ?_
     refine DL.nil ?_
     refine TT.seq (x:=sub [1,1,1,0,1,0,0,1,0,0,1,1,0,1,0,1,0] B58) (y:=sub [1,1,1,0,1,0,0,1,0,0,1,1,0,1,0,1,1] B58) ?_
     refine TT.seq (x:=sub [1,1,1,0,1,0,0,1,0,0,1,1,0,1,0,1,0,0] B58) (y:=sub [1,1,1,0,1,0,0,1,0,0,1,1,0,1,0,1,0,1] B58) ?_
     refine TT.rg [0,1] [kp,kp] rfl rfl ?_
     refine DL.mv 33 (.int .u64 t126) rfl rfl rfl ?_
     refine DL.pu 34 (.bool (decide (2 < t126))) rfl (p_gtr rfl rfl rfl) ?_
     refine DL.nil ?_
     obtain ⟨j6_130,h131,h132⟩:=bind_some h128
     have J133 : TT Tryd.prog 58 R 48 w0 I (.code (sub [1,1,1,0,1,0,0,1,0,0,1,1,0,1,0,1,1] B58) :: (.code (sub [1,1,1,0,1,0,0,1,0,0,1,1,1] B58) :: .inBlock 1 :: .code (sub [1,1,1,0,1,0,0,1,1] B58) :: .inLoop (sub [1,1,1,0,1,0,0] B58) :: .inBlock 0 :: K)) [(0,a0_v),(3,y_2_v),(4,.int .u64 (IntKind.u64.wrap (t106 + t113))),(5,.int .i64 x5_4),(6,.int .u64 j6_130)] [(Value.ownBlock y_2_v,.cells y_2_c 50 (0,0))]:=by
      refine TT.rg [0,1,2,3,4,5,6,7,8] [kp,kp,kp,kp,kp,kp,(.alloc,none),kx,kp] rfl rfl ?_
      refine DL.mv 35 (y_2_v) rfl rfl rfl ?_
      refine DL.mv 36 (.int .u64 j6_130) rfl rfl rfl ?_
      refine DL.mv 37 (.int .u64 (IntKind.u64.wrap (t106 + t113))) rfl rfl rfl ?_
      refine DL.mv 38 (.int .u64 j6_130) rfl rfl rfl ?_
      refine DL.pu 39 (.int .u64 (IntKind.u64.wrap (40 * j6_130))) rfl (p_mul rfl rfl rfl) ?_
      obtain ⟨t137,e138,h139⟩:=nm_some h132
      refine DL.pu 40 (.int .u64 t137) rfl (by rw [e138]; exact p_sub rfl rfl rfl) ?_
      refine DL.newSl (zs:=[j6_130,t137]) (n:=2) rfl (by decide) (i:=6) rfl (Wn.none rfl) rfl rfl rfl (f_buildSl (n:=2) (zs:=[j6_130,t137]) (vs:=[(0,.int .u64 j6_130),(1,.int .u64 t137)]) elem24 rfl rfl (by kernel_rfl) rfl (args_val2 rfl)) ?_
      intro s141_v s141_c ho_s141
      obtain ⟨g142,h143⟩:=req_some h139
      refine DL.appendI (fun s144_v s144_c => [(Value.ownBlock s141_v,.cells s141_c 50 (0,0)),(Value.ownBlock s144_v,.cells s144_c 50 (0,0))]) elem24 (j:=1) rfl ho_y_2 g142 (by decide) (fun w hc => IntOwn.src (i:=0) ho_s141 hc rfl) (i:=7) rfl (Wn.none rfl) rfl rfl rfl rfl rfl rfl (fun _ _ => rfl) ?_
      intro s144_v s144_c ho_s144
      show DL _ _ _ _ _ _ _ _ _ _ _ _ [(Value.ownBlock s141_v,.cells s141_c 50 (0,0)),(Value.ownBlock s144_v,.cells s144_c 50 (0,0))]
      refine DL.pu 3 (s144_v) rfl (p_assign rfl rfl) ?_
      refine DL.nil ?_
      obtain rfl:=Option.some.inj h143
      exact TT.pick [1] (by decide) (TT.weak (J123 s144_v s144_c ho_s144) (Sub.cons rfl (Sub.cons rfl (Sub.cons rfl (Sub.nil _)))))
     by_cases c129 : (decide (2 < t126)) = true
     ·
      have h135:=ite_true c129 h131
      refine TT.cond_true (x:=sub [1,1,1,0,1,0,0,1,0,0,1,1,0,1,0,1,0,1,0] B58) (y:=sub [1,1,1,0,1,0,0,1,0,0,1,1,0,1,0,1,0,1,1] B58) rfl c129 ?_
      refine TT.rg [0] [kp] rfl rfl ?_
      refine DL.pu 6 (.int .u64 2) rfl (p_assign rfl rfl) ?_
      refine DL.nil ?_
      obtain rfl:=Option.some.inj h135
      exact TT.weak (J133 ) (Sub.cons rfl (Sub.cons rfl (Sub.cons rfl (Sub.cons rfl (Sub.cons rfl (Sub.nil _))))))
     ·
      replace c129:=Bool.eq_false_iff.mpr c129
      have h136:=ite_false c129 h131
      refine TT.cond_false (x:=sub [1,1,1,0,1,0,0,1,0,0,1,1,0,1,0,1,0,1,0] B58) (y:=sub [1,1,1,0,1,0,0,1,0,0,1,1,0,1,0,1,0,1,1] B58) rfl c129 ?_
      refine TT.skip ?_
      obtain rfl:=Option.some.inj h136
      exact TT.weak (J133 ) (Sub.cons rfl (Sub.cons rfl (Sub.cons rfl (Sub.cons rfl (Sub.cons rfl (Sub.nil _))))))
    ·
     replace c119:=Bool.eq_false_iff.mpr c119
     have h145:=ite_false c119 h121
     refine TT.cond_false (x:=sub [1,1,1,0,1,0,0,1,0,0,1,1,0,1,0] B58) (y:=sub [1,1,1,0,1,0,0,1,0,0,1,1,0,1,1] B58) rfl c119 ?_
     refine TT.rg [0,1,2,3,4] [kp,kp,(.alloc,none),kx,kp] rfl rfl ?_
     refine DL.mv 43 (y_2_v) rfl rfl rfl ?_
     refine DL.mv 44 (.int .u64 (IntKind.u64.wrap (t106 + t113))) rfl rfl rfl ?_
     refine DL.newSl (zs:=[IntKind.u64.wrap (t106 + t113)]) (n:=1) rfl (by decide) (i:=2) rfl (Wn.none rfl) rfl rfl rfl (f_buildSl (n:=1) (zs:=[IntKind.u64.wrap (t106 + t113)]) (vs:=[(0,.int .u64 (IntKind.u64.wrap (t106 + t113)))]) elem24 rfl rfl (by kernel_rfl) rfl (args_val2 rfl)) ?_
     intro s147_v s147_c ho_s147
     obtain ⟨g148,h149⟩:=req_some h145
     refine DL.appendI (fun s150_v s150_c => [(Value.ownBlock s147_v,.cells s147_c 50 (0,0)),(Value.ownBlock s150_v,.cells s150_c 50 (0,0))]) elem24 (j:=1) rfl ho_y_2 g148 (by decide) (fun w hc => IntOwn.src (i:=0) ho_s147 hc rfl) (i:=3) rfl (Wn.none rfl) rfl rfl rfl rfl rfl rfl (fun _ _ => rfl) ?_
     intro s150_v s150_c ho_s150
     show DL _ _ _ _ _ _ _ _ _ _ _ _ [(Value.ownBlock s147_v,.cells s147_c 50 (0,0)),(Value.ownBlock s150_v,.cells s150_c 50 (0,0))]
     refine DL.pu 3 (s150_v) rfl (p_assign rfl rfl) ?_
     refine DL.nil ?_
     obtain rfl:=Option.some.inj h149
     exact TT.pick [1] (by decide) (TT.weak (J123 s150_v s150_c ho_s150) (Sub.cons rfl (Sub.cons rfl (Sub.cons rfl (Sub.nil _)))))
  ·
   replace c104:=Bool.eq_false_iff.mpr c104
   have h151:=ite_false c104 h
   refine TT.cond_false (x:=sub [1,1,1,0,1,0,0,0,1,0] B58) (y:=sub [1,1,1,0,1,0,0,0,1,1] B58) rfl c104 ?_
   refine TT.exit rfl ?_
   obtain rfl:=Option.some.inj h151
   exact TT.weak (hk y_2_v y_2_c ho_y_2) (Sub.cons rfl (Sub.nil _))

def ref13_arcs.f (a0 : List Int) : Option ((List Int)):=(ref13_arcs.L0 a0 ((a0.length : Int).toNat + 1) ([] : List Int) 0 0).bind fun z_o1_103 => some z_o1_103
set_option maxRecDepth 20000 in
theorem ref13_arcs.ok {a0 : List Int} {a0_v : Value} {r : List Int} (h : ref13_arcs.f a0 = some r) {M : Mem} (w : World) (hM : Ext M (heapOf w)) (hr_a0 : IntRow M .u8 a0_v a0) : Calls Tryd.prog 58 #[a0_v] w (PostOwn id .u64 50 r w):=by
 unfold ref13_arcs.f at h
 have hE:=Env.start hM
 refine calls_of_TT (N:=48) (S:=[(0,a0_v)]) (c:=B58) Tryd.func58 rfl rfl rfl (by simp) ?_
 show TT _ _ _ _ _ _ [.code (sub [] B58)] _ _
 refine TT.seq (x:=sub [0] B58) (y:=sub [1] B58) ?_
 refine TT.rg [0] [kp] rfl rfl ?_
 refine DL.pu 2 (.slice none 0 0) rfl (p_assign rfl rfl) ?_
 refine DL.nil ?_
 refine TT.seq (x:=sub [1,0] B58) (y:=sub [1,1] B58) ?_
 refine TT.rg [0] [kp] rfl rfl ?_
 refine DL.pu 3 (.slice none 0 0) rfl (p_assign rfl rfl) ?_
 refine DL.nil ?_
 refine TT.seq (x:=sub [1,1,0] B58) (y:=sub [1,1,1] B58) ?_
 refine TT.rg [0] [kp] rfl rfl ?_
 refine DL.pu 4 (.int .u64 0) rfl (p_assign rfl rfl) ?_
 refine DL.nil ?_
 refine TT.seq (x:=sub [1,1,1,0] B58) (y:=sub [1,1,1,1] B58) ?_
 refine TT.seq (x:=sub [1,1,1,0,0] B58) (y:=sub [1,1,1,0,1] B58) ?_
 refine TT.rg [0] [kp] rfl rfl ?_
 refine DL.pu 5 (.int .i64 0) rfl (p_assign rfl rfl) ?_
 refine DL.nil ?_
 refine TT.block (c:=sub [1,1,1,0,1,0] B58) ?_
 refine TT.nilOwn (e:=50) ?_
 refine TT.loop (c:=sub [1,1,1,0,1,0,0] B58) ?_
 obtain ⟨z_o1_103,h152,h153⟩:=bind_some h
 refine TT.weak (ref13_arcs.L0_ok a0 a0_v hE hr_a0 ((a0.length : Int).toNat + 1) ([] : List Int) 0 0 (.slice none 0 0) (#[]) z_o1_103 (IntOwn.nil .u64) h152 (fun z_o1_103_v z_o1_103_c ho_z_o1_103 => ?_)) (Sub.cons rfl (Sub.cons rfl (Sub.cons rfl (Sub.cons rfl (Sub.nil _)))))
 refine TT.seq (x:=sub [1,1,1,1,0] B58) (y:=sub [1,1,1,1,1] B58) ?_
 refine TT.rg [0,1] [kp,kp] rfl rfl ?_
 refine DL.mv 47 (z_o1_103_v) rfl rfl rfl ?_
 refine DL.pu 2 (z_o1_103_v) rfl (p_assign rfl rfl) ?_
 refine DL.nil ?_
 obtain rfl:=Option.some.inj h153
 exact retOwnE (j:=0) hE.base Tryd.func58 rfl rfl rfl ho_z_o1_103

/-! ### escutcheon/escutcheonref13.whole: function 61 -/
noncomputable def B61 : Code:=bodyOf Tryd.f61
def ref13_whole.L0 (a0 : Int) : Nat → Int → Option (Int)
 | 0,_ => none
 | k + 1,x3_1 => (if (decide (x3_1 < 8)) = true then (nm (IntKind.i64.wrap ((IntKind.i64.wrap (8 * x3_1)) - 1)) fun t95 => req (0 ≤ (IntKind.u64.wrap t95)) (nm (IntKind.i64.wrap (0 - (ishl .i64 1 (IntKind.u64.wrap t95)))) fun t100 => (if (decide (a0 < t100)) = true then (some true) else (nm (IntKind.i64.wrap ((IntKind.i64.wrap (8 * x3_1)) - 1)) fun t111 => req (0 ≤ (IntKind.u64.wrap t111)) (nm (decide ((ishl .i64 1 (IntKind.u64.wrap t111)) ≤ a0)) fun t116 => some t116))).bind fun q104 => some q104)) else (some false)).bind fun q89 => if q89 = true then (ref13_whole.L0 a0 k (IntKind.i64.wrap (x3_1 + 1))) else (some x3_1)
set_option maxRecDepth 20000 in
theorem ref13_whole.L0_ok (a0 : Int) {R : Ending → World → Prop} {w0 : World} {M0 M I : Mem} {K : List Item} (hE : Env w0 M0 M I) :
  ∀ (k : Nat) (x3_1 : Int) (r0_ : Int) (h : ref13_whole.L0 a0 k x3_1 = some r0_) (hk : TT Tryd.prog 61 R 46 w0 I K [(0,.int .i64 a0),(3,.int .i64 r0_)] []),
   TT Tryd.prog 61 R 46 w0 I (.code (sub [1,1,0,0,0] B61) :: .inLoop (sub [1,1,0,0,0] B61) :: .inBlock 0 :: K) [(0,.int .i64 a0),(3,.int .i64 x3_1)] []:=by
 intro k
 induction k with
 | zero => intro x3_1 r0_ h; simp [ref13_whole.L0] at h
 | succ k ih =>
  intro x3_1 r0_ h hk
  unfold ref13_whole.L0 at h
  refine TT.seq (x:=sub [1,1,0,0,0,0] B61) (y:=sub [1,1,0,0,0,1] B61) ?_
  refine TT.seq (x:=sub [1,1,0,0,0,0,0] B61) (y:=sub [1,1,0,0,0,0,1] B61) ?_
  refine TT.rg [0,1,2,3,4,5,6,7,8,9,10,11,12,13,14,15,16,17,18,19,20] [kp,kp,kp,kp,kp,kp,kp,kp,kp,kp,kp,kp,kp,kp,kp,kp,kp,kp,kp,kp,kp] rfl rfl ?_
  refine DL.mv 7 (.int .i64 x3_1) rfl rfl rfl ?_
  refine DL.pu 8 (.bool (decide (x3_1 < 8))) rfl (p_lss rfl rfl rfl) ?_
  refine DL.mv 9 (.bool (decide (x3_1 < 8))) rfl rfl rfl ?_
  obtain ⟨q89,h90,h91⟩:=bind_some h
  refine DL.cut [(0,.int .i64 a0),(3,.int .i64 x3_1),(27,.bool q89)] [] ?_ (fun J92 => ?_)
  ·
   refine DL.nil ?_
   by_cases c120 : q89 = true
   ·
    have h121:=ite_true c120 h91
    refine TT.cond_true (x:=sub [1,1,0,0,0,0,1,0] B61) (y:=sub [1,1,0,0,0,0,1,1] B61) rfl c120 ?_
    refine TT.skip ?_
    refine TT.block (c:=sub [1,1,0,0,0,1,0] B61) ?_
    refine TT.rg [0,1,2] [kp,kp,kp] rfl rfl ?_
    refine DL.mv 28 (.int .i64 x3_1) rfl rfl rfl ?_
    refine DL.pu 29 (.int .i64 (IntKind.i64.wrap (x3_1 + 1))) rfl (p_add rfl rfl rfl) ?_
    refine DL.pu 3 (.int .i64 (IntKind.i64.wrap (x3_1 + 1))) rfl (p_assign rfl rfl) ?_
    refine DL.nil ?_
    refine TT.inBlock ?_
    refine TT.inLoop ?_
    exact TT.weak (ih (IntKind.i64.wrap (x3_1 + 1)) r0_ h121 hk) (Sub.cons rfl (Sub.cons rfl (Sub.nil _)))
   ·
    replace c120:=Bool.eq_false_iff.mpr c120
    have h122:=ite_false c120 h91
    refine TT.cond_false (x:=sub [1,1,0,0,0,0,1,0] B61) (y:=sub [1,1,0,0,0,0,1,1] B61) rfl c120 ?_
    refine TT.exit rfl ?_
    obtain rfl:=Option.some.inj h122
    exact TT.weak (hk) (Sub.cons rfl (Sub.cons rfl (Sub.nil _)))
  ·
   by_cases c93 : (decide (x3_1 < 8)) = true
   ·
    have h94:=ite_true c93 h90
    refine DL.pure (v:=.int .i64 a0) rfl (Wn.yes c93 rfl rfl rfl rfl) rfl rfl rfl (p_move rfl rfl) ?_
    refine DL.pure (v:=.int .i64 x3_1) rfl (Wn.yes c93 rfl rfl rfl rfl) rfl rfl rfl (p_move rfl rfl) ?_
    refine DL.pure (v:=.int .i64 (IntKind.i64.wrap (8 * x3_1))) rfl (Wn.yes c93 rfl rfl rfl rfl) rfl rfl rfl (p_mul rfl rfl rfl) ?_
    obtain ⟨t95,e96,h97⟩:=nm_some h94
    refine DL.pure (v:=.int .i64 t95) rfl (Wn.yes c93 rfl rfl rfl rfl) rfl rfl rfl (by rw [e96]; exact p_sub rfl rfl rfl) ?_
    refine DL.pure (v:=.int .u64 (IntKind.u64.wrap t95)) rfl (Wn.yes c93 rfl rfl rfl rfl) rfl rfl rfl (p_conv ty_u3 ty_u45 ⟨_,rfl⟩ rfl rfl) ?_
    obtain ⟨g98,h99⟩:=req_some h97
    refine DL.pure (v:=.int .i64 (ishl .i64 1 (IntKind.u64.wrap t95))) rfl (Wn.yes c93 rfl rfl rfl rfl) rfl rfl rfl (p_shl g98 rfl rfl rfl) ?_
    obtain ⟨t100,e101,h102⟩:=nm_some h99
    refine DL.pure (v:=.int .i64 t100) rfl (Wn.yes c93 rfl rfl rfl rfl) rfl rfl rfl (by rw [e101]; exact p_neg rfl rfl) ?_
    refine DL.pure (v:=.bool (decide (a0 < t100))) rfl (Wn.yes c93 rfl rfl rfl rfl) rfl rfl rfl (p_lss rfl rfl rfl) ?_
    refine DL.pure (v:=.bool (decide (a0 < t100))) rfl (Wn.yes c93 rfl rfl rfl rfl) rfl rfl rfl (p_move rfl rfl) ?_
    obtain ⟨q104,h105,h106⟩:=bind_some h102
    refine DL.cut [(0,.int .i64 a0),(3,.int .i64 x3_1),(9,.bool (decide (x3_1 < 8))),(10,.int .i64 a0),(11,.int .i64 x3_1),(12,.int .i64 (IntKind.i64.wrap (8 * x3_1))),(13,.int .i64 t95),(14,.int .u64 (IntKind.u64.wrap t95)),(15,.int .i64 (ishl .i64 1 (IntKind.u64.wrap t95))),(16,.int .i64 t100),(17,.bool (decide (a0 < t100))),(18,.bool (decide (a0 < t100))),(26,.bool q104)] [20] ?_ (fun J107 => ?_)
    ·
     refine DL.pu 27 (.bool q104) rfl (p_pick_t c93 rfl rfl rfl) ?_
     obtain rfl:=Option.some.inj h106
     exact DL.weak J92 (Sub.cons rfl (Sub.cons rfl (Sub.cons rfl (Sub.nil _))))
    ·
     by_cases c108 : (decide (a0 < t100)) = true
     ·
      have h109:=ite_true c108 h105
      refine DL.not (i:=12) rfl (Wn.yes c108 rfl rfl rfl rfl) rfl rfl ?_
      refine DL.not (i:=13) rfl (Wn.yes c108 rfl rfl rfl rfl) rfl rfl ?_
      refine DL.not (i:=14) rfl (Wn.yes c108 rfl rfl rfl rfl) rfl rfl ?_
      refine DL.not (i:=15) rfl (Wn.yes c108 rfl rfl rfl rfl) rfl rfl ?_
      refine DL.not (i:=16) rfl (Wn.yes c108 rfl rfl rfl rfl) rfl rfl ?_
      refine DL.not (i:=17) rfl (Wn.yes c108 rfl rfl rfl rfl) rfl rfl ?_
      refine DL.not (i:=18) rfl (Wn.yes c108 rfl rfl rfl rfl) rfl rfl ?_
      refine DL.pure (v:=.bool true) rfl (Wn.yes c93 rfl rfl rfl rfl) rfl rfl rfl (p_pick_t c108 rfl rfl rfl) ?_
      obtain rfl:=Option.some.inj h109
      exact DL.weak J107 (Sub.cons rfl (Sub.cons rfl (Sub.cons rfl (Sub.cons rfl (Sub.cons rfl (Sub.cons rfl (Sub.cons rfl (Sub.cons rfl (Sub.cons rfl (Sub.cons rfl (Sub.cons rfl (Sub.cons rfl (Sub.cons rfl (Sub.nil _))))))))))))))
     ·
      replace c108:=Bool.eq_false_iff.mpr c108
      have h110:=ite_false c108 h105
      refine DL.pure (v:=.int .i64 a0) rfl (Wn.no c108 rfl rfl rfl rfl) rfl rfl rfl (p_move rfl rfl) ?_
      refine DL.pure (v:=.int .i64 x3_1) rfl (Wn.no c108 rfl rfl rfl rfl) rfl rfl rfl (p_move rfl rfl) ?_
      refine DL.pure (v:=.int .i64 (IntKind.i64.wrap (8 * x3_1))) rfl (Wn.no c108 rfl rfl rfl rfl) rfl rfl rfl (p_mul rfl rfl rfl) ?_
      obtain ⟨t111,e112,h113⟩:=nm_some h110
      refine DL.pure (v:=.int .i64 t111) rfl (Wn.no c108 rfl rfl rfl rfl) rfl rfl rfl (by rw [e112]; exact p_sub rfl rfl rfl) ?_
      refine DL.pure (v:=.int .u64 (IntKind.u64.wrap t111)) rfl (Wn.no c108 rfl rfl rfl rfl) rfl rfl rfl (p_conv ty_u3 ty_u45 ⟨_,rfl⟩ rfl rfl) ?_
      obtain ⟨g114,h115⟩:=req_some h113
      refine DL.pure (v:=.int .i64 (ishl .i64 1 (IntKind.u64.wrap t111))) rfl (Wn.no c108 rfl rfl rfl rfl) rfl rfl rfl (p_shl g114 rfl rfl rfl) ?_
      obtain ⟨t116,e117,h118⟩:=nm_some h115
      refine DL.pure (v:=.bool t116) rfl (Wn.no c108 rfl rfl rfl rfl) rfl rfl rfl (by rw [e117]; exact p_geq rfl rfl rfl) ?_
      refine DL.pure (v:=.bool t116) rfl (Wn.yes c93 rfl rfl rfl rfl) rfl rfl rfl (p_pick_f c108 rfl rfl rfl) ?_
      obtain rfl:=Option.some.inj h118
      exact DL.weak J107 (Sub.cons rfl (Sub.cons rfl (Sub.cons rfl (Sub.cons rfl (Sub.cons rfl (Sub.cons rfl (Sub.cons rfl (Sub.cons rfl (Sub.cons rfl (Sub.cons rfl (Sub.cons rfl (Sub.cons rfl (Sub.cons rfl (Sub.nil _))))))))))))))
   ·
    replace c93:=Bool.eq_false_iff.mpr c93
    have h119:=ite_false c93 h90
    refine DL.not (i:=3) rfl (Wn.no c93 rfl rfl rfl rfl) rfl rfl ?_
    refine DL.not (i:=4) rfl (Wn.no c93 rfl rfl rfl rfl) rfl rfl ?_
    refine DL.not (i:=5) rfl (Wn.no c93 rfl rfl rfl rfl) rfl rfl ?_
    refine DL.not (i:=6) rfl (Wn.no c93 rfl rfl rfl rfl) rfl rfl ?_
    refine DL.not (i:=7) rfl (Wn.no c93 rfl rfl rfl rfl) rfl rfl ?_
    refine DL.not (i:=8) rfl (Wn.no c93 rfl rfl rfl rfl) rfl rfl ?_
    refine DL.not (i:=9) rfl (Wn.no c93 rfl rfl rfl rfl) rfl rfl ?_
    refine DL.not (i:=10) rfl (Wn.no c93 rfl rfl rfl rfl) rfl rfl ?_
    refine DL.not (i:=11) rfl (Wn.no c93 rfl rfl rfl rfl) rfl rfl ?_
    refine DL.not (i:=12) rfl (Wn.undef rfl rfl rfl) rfl rfl ?_
    refine DL.not (i:=13) rfl (Wn.undef rfl rfl rfl) rfl rfl ?_
    refine DL.not (i:=14) rfl (Wn.undef rfl rfl rfl) rfl rfl ?_
    refine DL.not (i:=15) rfl (Wn.undef rfl rfl rfl) rfl rfl ?_
    refine DL.not (i:=16) rfl (Wn.undef rfl rfl rfl) rfl rfl ?_
    refine DL.not (i:=17) rfl (Wn.undef rfl rfl rfl) rfl rfl ?_
    refine DL.not (i:=18) rfl (Wn.undef rfl rfl rfl) rfl rfl ?_
    refine DL.not (i:=19) rfl (Wn.no c93 rfl rfl rfl rfl) rfl rfl ?_
    refine DL.pu 27 (.bool false) rfl (p_pick_f c93 rfl rfl rfl) ?_
    obtain rfl:=Option.some.inj h119
    exact DL.weak J92 (Sub.cons rfl (Sub.cons rfl (Sub.cons rfl (Sub.nil _))))

def ref13_whole.L1 (z3_87 : Int) : Nat → (List Int) → Int → Int → Option (List Int)
 | 0,_,_,_ => none
 | k + 1,y_127,x5_128,x6_129 => if (decide (x6_129 < z3_87)) = true then (req ([IntKind.u8.wrap (Int.tmod x5_128 256)].length + y_127.length ≤ 1099511627776) (ref13_whole.L1 z3_87 k ([IntKind.u8.wrap (Int.tmod x5_128 256)] ++ y_127) (IntKind.u64.wrap (Int.tdiv x5_128 256)) (IntKind.i64.wrap (x6_129 + 1)))) else (some y_127)
set_option maxRecDepth 20000 in
theorem ref13_whole.L1_ok (z3_87 : Int) {R : Ending → World → Prop} {w0 : World} {M0 M I : Mem} {K : List Item} (hE : Env w0 M0 M I) :
  ∀ (k : Nat) (y_127 : List Int) (x5_128 : Int) (x6_129 : Int) (y_127_v : Value) (y_127_c : Array Value) (r0_ : List Int) (ho_y_127 : IntOwn .u8 y_127_v y_127_c y_127) (h : ref13_whole.L1 z3_87 k y_127 x5_128 x6_129 = some r0_) (hk : ∀ (z_o126_188_v : Value),∀ (z_o126_188_c : Array Value),IntOwn .u8 z_o126_188_v z_o126_188_c r0_ → TT Tryd.prog 61 R 46 w0 I K [(4,z_o126_188_v)] [(Value.ownBlock z_o126_188_v,.cells z_o126_188_c 5 (0,0))]),
   TT Tryd.prog 61 R 46 w0 I (.code (sub [1,1,1,1,1,0,1,0,0] B61) :: .inLoop (sub [1,1,1,1,1,0,1,0,0] B61) :: .inBlock 2 :: K) [(3,.int .i64 z3_87),(4,y_127_v),(5,.int .u64 x5_128),(6,.int .i64 x6_129)] [(Value.ownBlock y_127_v,.cells y_127_c 5 (0,0))]:=by
 intro k
 induction k with
 | zero => intro y_127 x5_128 x6_129 y_127_v y_127_c r0_ ho_y_127 h; simp [ref13_whole.L1] at h
 | succ k ih =>
  intro y_127 x5_128 x6_129 y_127_v y_127_c r0_ ho_y_127 h hk
  unfold ref13_whole.L1 at h
  refine TT.seq (x:=sub [1,1,1,1,1,0,1,0,0,0] B61) (y:=sub [1,1,1,1,1,0,1,0,0,1] B61) ?_
  refine TT.seq (x:=sub [1,1,1,1,1,0,1,0,0,0,0] B61) (y:=sub [1,1,1,1,1,0,1,0,0,0,1] B61) ?_
  refine TT.rg [0,1,2] [kp,kp,kp] rfl rfl ?_
  refine DL.mv 32 (.int .i64 x6_129) rfl rfl rfl ?_
  refine DL.mv 33 (.int .i64 z3_87) rfl rfl rfl ?_
  refine DL.pu 34 (.bool (decide (x6_129 < z3_87))) rfl (p_lss rfl rfl rfl) ?_
  refine DL.nil ?_
  by_cases c189 : (decide (x6_129 < z3_87)) = true
  ·
   have h190:=ite_true c189 h
   refine TT.cond_true (x:=sub [1,1,1,1,1,0,1,0,0,0,1,0] B61) (y:=sub [1,1,1,1,1,0,1,0,0,0,1,1] B61) rfl c189 ?_
   refine TT.skip ?_
   refine TT.seq (x:=sub [1,1,1,1,1,0,1,0,0,1,0] B61) (y:=sub [1,1,1,1,1,0,1,0,0,1,1] B61) ?_
   refine TT.block (c:=sub [1,1,1,1,1,0,1,0,0,1,0,0] B61) ?_
   refine TT.seq (x:=sub [1,1,1,1,1,0,1,0,0,1,0,0,0] B61) (y:=sub [1,1,1,1,1,0,1,0,0,1,0,0,1] B61) ?_
   refine TT.rg [0,1,2,3,4,5,6] [kp,kp,kp,(.alloc,none),kp,kx,kp] rfl rfl ?_
   refine DL.mv 37 (.int .u64 x5_128) rfl rfl rfl ?_
   refine DL.pu 38 (.int .u64 (Int.tmod x5_128 256)) rfl (p_rem (by decide) rfl rfl rfl) ?_
   refine DL.pu 39 (.int .u8 (IntKind.u8.wrap (Int.tmod x5_128 256))) rfl (p_conv ty_u50 ty_u5 ⟨_,rfl⟩ rfl rfl) ?_
   refine DL.newSl (zs:=[IntKind.u8.wrap (Int.tmod x5_128 256)]) (n:=1) rfl (by decide) (i:=3) rfl (Wn.none rfl) rfl rfl rfl (f_buildSl (n:=1) (zs:=[IntKind.u8.wrap (Int.tmod x5_128 256)]) (vs:=[(0,.int .u8 (IntKind.u8.wrap (Int.tmod x5_128 256)))]) elem23 rfl rfl (by kernel_rfl) rfl (args_val2 rfl)) ?_
   intro s192_v s192_c ho_s192
   refine DL.mv 41 (y_127_v) rfl rfl rfl ?_
   obtain ⟨g193,h194⟩:=req_some h190
   refine DL.appendI (fun s195_v s195_c => [(Value.ownBlock s195_v,.cells s195_c 5 (0,0)),(Value.ownBlock y_127_v,.cells y_127_c 5 (0,0))]) elem23 (j:=0) rfl ho_s192 g193 (by decide) (fun w hc => IntOwn.src (i:=1) ho_y_127 hc rfl) (i:=5) rfl (Wn.none rfl) rfl rfl rfl rfl rfl rfl (fun _ _ => rfl) ?_
   intro s195_v s195_c ho_s195
   show DL _ _ _ _ _ _ _ _ _ _ _ _ [(Value.ownBlock s195_v,.cells s195_c 5 (0,0)),(Value.ownBlock y_127_v,.cells y_127_c 5 (0,0))]
   refine DL.pu 4 (s195_v) rfl (p_assign rfl rfl) ?_
   refine DL.nil ?_
   refine TT.rg [0,1,2] [kp,kp,kp] rfl rfl ?_
   refine DL.mv 43 (.int .u64 x5_128) rfl rfl rfl ?_
   refine DL.pu 44 (.int .u64 (IntKind.u64.wrap (Int.tdiv x5_128 256))) rfl (p_quo (by decide) rfl rfl rfl) ?_
   refine DL.pu 5 (.int .u64 (IntKind.u64.wrap (Int.tdiv x5_128 256))) rfl (p_assign rfl rfl) ?_
   refine DL.nil ?_
   refine TT.inBlock ?_
   refine TT.rg [0,1,2] [kp,kp,kp] rfl rfl ?_
   refine DL.mv 35 (.int .i64 x6_129) rfl rfl rfl ?_
   refine DL.pu 36 (.int .i64 (IntKind.i64.wrap (x6_129 + 1))) rfl (p_add rfl rfl rfl) ?_
   refine DL.pu 6 (.int .i64 (IntKind.i64.wrap (x6_129 + 1))) rfl (p_assign rfl rfl) ?_
   refine DL.nil ?_
   refine TT.inLoop ?_
   exact TT.pick [0] (by decide) (TT.weak (ih ([IntKind.u8.wrap (Int.tmod x5_128 256)] ++ y_127) (IntKind.u64.wrap (Int.tdiv x5_128 256)) (IntKind.i64.wrap (x6_129 + 1)) s195_v s195_c r0_ ho_s195 h194 hk) (Sub.cons rfl (Sub.cons rfl (Sub.cons rfl (Sub.cons rfl (Sub.nil _))))))
  ·
   replace c189:=Bool.eq_false_iff.mpr c189
   have h196:=ite_false c189 h
   refine TT.cond_false (x:=sub [1,1,1,1,1,0,1,0,0,0,1,0] B61) (y:=sub [1,1,1,1,1,0,1,0,0,0,1,1] B61) rfl c189 ?_
   refine TT.exit rfl ?_
   obtain rfl:=Option.some.inj h196
   exact TT.weak (hk y_127_v y_127_c ho_y_127) (Sub.cons rfl (Sub.nil _))

def ref13_whole.f (a0 : Int) : Option ((List Int)):=(ref13_whole.L0 a0 (((8 : Int) - (1 : Int)).toNat + 1) 1).bind fun z3_87 => (ref13_whole.L1 z3_87 (z3_87.toNat + 1) ([] : List Int) (IntKind.u64.wrap a0) 0).bind fun z_o126_188 => some z_o126_188
set_option maxRecDepth 20000 in
theorem ref13_whole.ok {a0 : Int} {r : List Int} (h : ref13_whole.f a0 = some r) {M : Mem} (w : World) (hM : Ext M (heapOf w)) : Calls Tryd.prog 61 #[.int .i64 a0] w (PostOwn id .u8 5 r w):=by
 unfold ref13_whole.f at h
 have hE:=Env.start hM
 refine calls_of_TT (N:=46) (S:=[(0,.int .i64 a0)]) (c:=B61) Tryd.func61 rfl rfl rfl (by simp) ?_
 show TT _ _ _ _ _ _ [.code (sub [] B61)] _ _
 refine TT.seq (x:=sub [0] B61) (y:=sub [1] B61) ?_
 refine TT.rg [0] [kp] rfl rfl ?_
 refine DL.pu 2 (.slice none 0 0) rfl (p_assign rfl rfl) ?_
 refine DL.nil ?_
 refine TT.seq (x:=sub [1,0] B61) (y:=sub [1,1] B61) ?_
 refine TT.rg [0] [kp] rfl rfl ?_
 refine DL.pu 3 (.int .i64 1) rfl (p_assign rfl rfl) ?_
 refine DL.nil ?_
 refine TT.seq (x:=sub [1,1,0] B61) (y:=sub [1,1,1] B61) ?_
 refine TT.block (c:=sub [1,1,0,0] B61) ?_
 refine TT.loop (c:=sub [1,1,0,0,0] B61) ?_
 obtain ⟨z3_87,h123,h124⟩:=bind_some h
 refine TT.weak (ref13_whole.L0_ok a0 hE (((8 : Int) - (1 : Int)).toNat + 1) 1 z3_87 h123 ( ?_)) (Sub.cons rfl (Sub.cons rfl (Sub.nil _)))
 refine TT.seq (x:=sub [1,1,1,0] B61) (y:=sub [1,1,1,1] B61) ?_
 refine TT.rg [0] [kp] rfl rfl ?_
 refine DL.pu 4 (.slice none 0 0) rfl (p_assign rfl rfl) ?_
 refine DL.nil ?_
 refine TT.seq (x:=sub [1,1,1,1,0] B61) (y:=sub [1,1,1,1,1] B61) ?_
 refine TT.rg [0,1,2] [kp,kp,kp] rfl rfl ?_
 refine DL.mv 30 (.int .i64 a0) rfl rfl rfl ?_
 refine DL.pu 31 (.int .u64 (IntKind.u64.wrap a0)) rfl (p_conv ty_u2 ty_u50 ⟨_,rfl⟩ rfl rfl) ?_
 refine DL.pu 5 (.int .u64 (IntKind.u64.wrap a0)) rfl (p_assign rfl rfl) ?_
 refine DL.nil ?_
 refine TT.seq (x:=sub [1,1,1,1,1,0] B61) (y:=sub [1,1,1,1,1,1] B61) ?_
 refine TT.seq (x:=sub [1,1,1,1,1,0,0] B61) (y:=sub [1,1,1,1,1,0,1] B61) ?_
 refine TT.rg [0] [kp] rfl rfl ?_
 refine DL.pu 6 (.int .i64 0) rfl (p_assign rfl rfl) ?_
 refine DL.nil ?_
 refine TT.block (c:=sub [1,1,1,1,1,0,1,0] B61) ?_
 refine TT.nilOwn (e:=5) ?_
 refine TT.loop (c:=sub [1,1,1,1,1,0,1,0,0] B61) ?_
 obtain ⟨z_o126_188,h197,h198⟩:=bind_some h124
 refine TT.weak (ref13_whole.L1_ok z3_87 hE (z3_87.toNat + 1) ([] : List Int) (IntKind.u64.wrap a0) 0 (.slice none 0 0) (#[]) z_o126_188 (IntOwn.nil .u8) h197 (fun z_o126_188_v z_o126_188_c ho_z_o126_188 => ?_)) (Sub.cons rfl (Sub.cons rfl (Sub.cons rfl (Sub.cons rfl (Sub.nil _)))))
 refine TT.seq (x:=sub [1,1,1,1,1,1,0] B61) (y:=sub [1,1,1,1,1,1,1] B61) ?_
 refine TT.rg [0,1] [kp,kp] rfl rfl ?_
 refine DL.mv 45 (z_o126_188_v) rfl rfl rfl ?_
 refine DL.pu 2 (z_o126_188_v) rfl (p_assign rfl rfl) ?_
 refine DL.nil ?_
 obtain rfl:=Option.some.inj h198
 exact retOwnE (j:=0) hE.base Tryd.func61 rfl rfl rfl ho_z_o126_188

/-! ### escutcheon/escutcheonref13.groups: function 62 -/
noncomputable def B62 : Code:=bodyOf Tryd.f62
def ref13_groups.L0 : Nat → (List Int) → Int → Option (List Int)
 | 0,_,_ => none
 | k + 1,y_3,x0_4 => if (decide (0 < x0_4)) = true then (nm (IntKind.u8.wrap (IntKind.u64.wrap ((Int.tmod x0_4 128) + 128))) fun t69 => req ([t69].length + y_3.length ≤ 1099511627776) (ref13_groups.L0 k ([t69] ++ y_3) (IntKind.u64.wrap (Int.tdiv x0_4 128)))) else (some y_3)
set_option maxRecDepth 20000 in
theorem ref13_groups.L0_ok {R : Ending → World → Prop} {w0 : World} {M0 M I : Mem} {K : List Item} (hE : Env w0 M0 M I) :
  ∀ (k : Nat) (y_3 : List Int) (x0_4 : Int) (y_3_v : Value) (y_3_c : Array Value) (r0_ : List Int) (ho_y_3 : IntOwn .u8 y_3_v y_3_c y_3) (h : ref13_groups.L0 k y_3 x0_4 = some r0_) (hk : ∀ (z_o1_66_v : Value),∀ (z_o1_66_c : Array Value),IntOwn .u8 z_o1_66_v z_o1_66_c r0_ → TT Tryd.prog 62 R 22 w0 I K [(3,z_o1_66_v)] [(Value.ownBlock z_o1_66_v,.cells z_o1_66_c 5 (0,0))]),
   TT Tryd.prog 62 R 22 w0 I (.code (sub [1,1,0,1,0,0] B62) :: .inLoop (sub [1,1,0,1,0,0] B62) :: .inBlock 0 :: K) [(0,.int .u64 x0_4),(3,y_3_v)] [(Value.ownBlock y_3_v,.cells y_3_c 5 (0,0))]:=by
 intro k
 induction k with
 | zero => intro y_3 x0_4 y_3_v y_3_c r0_ ho_y_3 h; simp [ref13_groups.L0] at h
 | succ k ih =>
  intro y_3 x0_4 y_3_v y_3_c r0_ ho_y_3 h hk
  unfold ref13_groups.L0 at h
  refine TT.seq (x:=sub [1,1,0,1,0,0,0] B62) (y:=sub [1,1,0,1,0,0,1] B62) ?_
  refine TT.seq (x:=sub [1,1,0,1,0,0,0,0] B62) (y:=sub [1,1,0,1,0,0,0,1] B62) ?_
  refine TT.rg [0,1] [kp,kp] rfl rfl ?_
  refine DL.mv 10 (.int .u64 x0_4) rfl rfl rfl ?_
  refine DL.pu 11 (.bool (decide (0 < x0_4))) rfl (p_gtr rfl rfl rfl) ?_
  refine DL.nil ?_
  by_cases c67 : (decide (0 < x0_4)) = true
  ·
   have h68:=ite_true c67 h
   refine TT.cond_true (x:=sub [1,1,0,1,0,0,0,1,0] B62) (y:=sub [1,1,0,1,0,0,0,1,1] B62) rfl c67 ?_
   refine TT.skip ?_
   refine TT.seq (x:=sub [1,1,0,1,0,0,1,0] B62) (y:=sub [1,1,0,1,0,0,1,1] B62) ?_
   refine TT.block (c:=sub [1,1,0,1,0,0,1,0,0] B62) ?_
   refine TT.rg [0,1,2,3,4,5,6,7] [kp,kp,kp,kp,(.alloc,none),kp,kx,kp] rfl rfl ?_
   refine DL.mv 14 (.int .u64 x0_4) rfl rfl rfl ?_
   refine DL.pu 15 (.int .u64 (Int.tmod x0_4 128)) rfl (p_rem (by decide) rfl rfl rfl) ?_
   refine DL.pu 16 (.int .u64 (IntKind.u64.wrap ((Int.tmod x0_4 128) + 128))) rfl (p_add rfl rfl rfl) ?_
   obtain ⟨t69,e70,h71⟩:=nm_some h68
   refine DL.pu 17 (.int .u8 t69) rfl (by rw [e70]; exact p_conv ty_u50 ty_u5 ⟨_,rfl⟩ rfl rfl) ?_
   refine DL.newSl (zs:=[t69]) (n:=1) rfl (by decide) (i:=4) rfl (Wn.none rfl) rfl rfl rfl (f_buildSl (n:=1) (zs:=[t69]) (vs:=[(0,.int .u8 t69)]) elem23 rfl rfl (by kernel_rfl) rfl (args_val2 rfl)) ?_
   intro s73_v s73_c ho_s73
   refine DL.mv 19 (y_3_v) rfl rfl rfl ?_
   obtain ⟨g74,h75⟩:=req_some h71
   refine DL.appendI (fun s76_v s76_c => [(Value.ownBlock s76_v,.cells s76_c 5 (0,0)),(Value.ownBlock y_3_v,.cells y_3_c 5 (0,0))]) elem23 (j:=0) rfl ho_s73 g74 (by decide) (fun w hc => IntOwn.src (i:=1) ho_y_3 hc rfl) (i:=6) rfl (Wn.none rfl) rfl rfl rfl rfl rfl rfl (fun _ _ => rfl) ?_
   intro s76_v s76_c ho_s76
   show DL _ _ _ _ _ _ _ _ _ _ _ _ [(Value.ownBlock s76_v,.cells s76_c 5 (0,0)),(Value.ownBlock y_3_v,.cells y_3_c 5 (0,0))]
   refine DL.pu 3 (s76_v) rfl (p_assign rfl rfl) ?_
   refine DL.nil ?_
   refine TT.inBlock ?_
   refine TT.rg [0,1,2] [kp,kp,kp] rfl rfl ?_
   refine DL.mv 12 (.int .u64 x0_4) rfl rfl rfl ?_
   refine DL.pu 13 (.int .u64 (IntKind.u64.wrap (Int.tdiv x0_4 128))) rfl (p_quo (by decide) rfl rfl rfl) ?_
   refine DL.pu 0 (.int .u64 (IntKind.u64.wrap (Int.tdiv x0_4 128))) rfl (p_assign rfl rfl) ?_
   refine DL.nil ?_
   refine TT.inLoop ?_
   exact TT.pick [0] (by decide) (TT.weak (ih ([t69] ++ y_3) (IntKind.u64.wrap (Int.tdiv x0_4 128)) s76_v s76_c r0_ ho_s76 h75 hk) (Sub.cons rfl (Sub.cons rfl (Sub.nil _))))
  ·
   replace c67:=Bool.eq_false_iff.mpr c67
   have h77:=ite_false c67 h
   refine TT.cond_false (x:=sub [1,1,0,1,0,0,0,1,0] B62) (y:=sub [1,1,0,1,0,0,0,1,1] B62) rfl c67 ?_
   refine TT.exit rfl ?_
   obtain rfl:=Option.some.inj h77
   exact TT.weak (hk y_3_v y_3_c ho_y_3) (Sub.cons rfl (Sub.nil _))

def ref13_groups.f (a0 : Int) : Option ((List Int)):=(ref13_groups.L0 ((IntKind.u64.wrap (Int.tdiv a0 128)).toNat + 1) [IntKind.u8.wrap (Int.tmod a0 128)] (IntKind.u64.wrap (Int.tdiv a0 128))).bind fun z_o1_66 => some z_o1_66
set_option maxRecDepth 20000 in
theorem ref13_groups.ok {a0 : Int} {r : List Int} (h : ref13_groups.f a0 = some r) {M : Mem} (w : World) (hM : Ext M (heapOf w)) : Calls Tryd.prog 62 #[.int .u64 a0] w (PostOwn id .u8 5 r w):=by
 unfold ref13_groups.f at h
 have hE:=Env.start hM
 refine calls_of_TT (N:=22) (S:=[(0,.int .u64 a0)]) (c:=B62) Tryd.func62 rfl rfl rfl (by simp) ?_
 show TT _ _ _ _ _ _ [.code (sub [] B62)] _ _
 refine TT.seq (x:=sub [0] B62) (y:=sub [1] B62) ?_
 refine TT.rg [0] [kp] rfl rfl ?_
 refine DL.pu 2 (.slice none 0 0) rfl (p_assign rfl rfl) ?_
 refine DL.nil ?_
 refine TT.seq (x:=sub [1,0] B62) (y:=sub [1,1] B62) ?_
 refine TT.rg [0,1,2,3,4] [kp,kp,kp,(.alloc,none),kp] rfl rfl ?_
 refine DL.mv 4 (.int .u64 a0) rfl rfl rfl ?_
 refine DL.pu 5 (.int .u64 (Int.tmod a0 128)) rfl (p_rem (by decide) rfl rfl rfl) ?_
 refine DL.pu 6 (.int .u8 (IntKind.u8.wrap (Int.tmod a0 128))) rfl (p_conv ty_u50 ty_u5 ⟨_,rfl⟩ rfl rfl) ?_
 refine DL.newSl (zs:=[IntKind.u8.wrap (Int.tmod a0 128)]) (n:=1) rfl (by decide) (i:=3) rfl (Wn.none rfl) rfl rfl rfl (f_buildSl (n:=1) (zs:=[IntKind.u8.wrap (Int.tmod a0 128)]) (vs:=[(0,.int .u8 (IntKind.u8.wrap (Int.tmod a0 128)))]) elem23 rfl rfl (by kernel_rfl) rfl (args_val2 rfl)) ?_
 intro s2_v s2_c ho_s2
 refine DL.pu 3 (s2_v) rfl (p_assign rfl rfl) ?_
 refine DL.nil ?_
 refine TT.seq (x:=sub [1,1,0] B62) (y:=sub [1,1,1] B62) ?_
 refine TT.seq (x:=sub [1,1,0,0] B62) (y:=sub [1,1,0,1] B62) ?_
 refine TT.rg [0,1,2] [kp,kp,kp] rfl rfl ?_
 refine DL.mv 8 (.int .u64 a0) rfl rfl rfl ?_
 refine DL.pu 9 (.int .u64 (IntKind.u64.wrap (Int.tdiv a0 128))) rfl (p_quo (by decide) rfl rfl rfl) ?_
 refine DL.pu 0 (.int .u64 (IntKind.u64.wrap (Int.tdiv a0 128))) rfl (p_assign rfl rfl) ?_
 refine DL.nil ?_
 refine TT.block (c:=sub [1,1,0,1,0] B62) ?_
 refine TT.loop (c:=sub [1,1,0,1,0,0] B62) ?_
 obtain ⟨z_o1_66,h78,h79⟩:=bind_some h
 refine TT.weak (ref13_groups.L0_ok hE ((IntKind.u64.wrap (Int.tdiv a0 128)).toNat + 1) [IntKind.u8.wrap (Int.tmod a0 128)] (IntKind.u64.wrap (Int.tdiv a0 128)) s2_v s2_c z_o1_66 ho_s2 h78 (fun z_o1_66_v z_o1_66_c ho_z_o1_66 => ?_)) (Sub.cons rfl (Sub.cons rfl (Sub.nil _)))
 refine TT.seq (x:=sub [1,1,1,0] B62) (y:=sub [1,1,1,1] B62) ?_
 refine TT.rg [0,1] [kp,kp] rfl rfl ?_
 refine DL.mv 21 (z_o1_66_v) rfl rfl rfl ?_
 refine DL.pu 2 (z_o1_66_v) rfl (p_assign rfl rfl) ?_
 refine DL.nil ?_
 obtain rfl:=Option.some.inj h79
 exact retOwnE (j:=0) hE.base Tryd.func62 rfl rfl rfl ho_z_o1_66

/-! ### escutcheon/der.mayTime: function 50 -/
noncomputable def B50 : Code:=bodyOf Tryd.f50
def der_mayTime.L0 (a0 : List UInt8) : Nat → Int → Option ((Unit) ⊕ (Bool))
 | 0,_ => none
 | k + 1,x6_1 => if (decide (x6_1 < (a0.length : Int))) = true then ((if (decide (x6_1 < 14)) = true then (req (0 ≤ x6_1) (req (x6_1 < (a0.length : Int)) ((if (decide ((chr a0 x6_1.toNat) < 48)) = true then (some true) else (some (decide (57 < (chr a0 x6_1.toNat))))).bind fun q92 => some q92))) else (some false)).bind fun q81 => if q81 = true then (some (.inr false)) else (der_mayTime.L0 a0 k (IntKind.i64.wrap (x6_1 + 1)))) else (some (.inl ()))
set_option maxRecDepth 20000 in
theorem der_mayTime.L0_ok (a0 : List UInt8) {r : Bool}  {w0 : World} {M0 M I : Mem} {K : List Item} (hE : Env w0 M0 M I) :
  ∀ (k : Nat) (x6_1 : Int) (q : (Unit) ⊕ (Bool)) (h : der_mayTime.L0 a0 k x6_1 = some q) (hk : match (generalizing:=false) q with | .inl () => (TT Tryd.prog 50 (Post (fun u => u = .bool r) w0) 32 w0 I K [(0,str a0)] []) | .inr rq => rq = r),
   TT Tryd.prog 50 (Post (fun u => u = .bool r) w0) 32 w0 I (.code (sub [1,0,1,0,0] B50) :: .inLoop (sub [1,0,1,0,0] B50) :: .inBlock 0 :: K) [(0,str a0),(5,.int .i64 (a0.length : Int)),(6,.int .i64 x6_1)] []:=by
 intro k
 induction k with
 | zero => intro x6_1 q h; simp [der_mayTime.L0] at h
 | succ k ih =>
  intro x6_1 q h hk
  unfold der_mayTime.L0 at h
  refine TT.seq (x:=sub [1,0,1,0,0,0] B50) (y:=sub [1,0,1,0,0,1] B50) ?_
  refine TT.rg [0] [kp] rfl rfl ?_
  refine DL.pu 7 (.bool (decide (x6_1 < (a0.length : Int)))) rfl (p_lss rfl rfl rfl) ?_
  refine DL.nil ?_
  refine TT.seq (x:=sub [1,0,1,0,0,1,0] B50) (y:=sub [1,0,1,0,0,1,1] B50) ?_
  by_cases c78 : (decide (x6_1 < (a0.length : Int))) = true
  ·
   have h79:=ite_true c78 h
   refine TT.cond_true (x:=sub [1,0,1,0,0,1,0,0] B50) (y:=sub [1,0,1,0,0,1,0,1] B50) rfl c78 ?_
   refine TT.skip ?_
   refine TT.seq (x:=sub [1,0,1,0,0,1,1,0] B50) (y:=sub [1,0,1,0,0,1,1,1] B50) ?_
   refine TT.block (c:=sub [1,0,1,0,0,1,1,0,0] B50) ?_
   refine TT.seq (x:=sub [1,0,1,0,0,1,1,0,0,0] B50) (y:=sub [1,0,1,0,0,1,1,0,0,1] B50) ?_
   refine TT.rg [0,1] [kp,kp] rfl rfl ?_
   refine DL.mv 8 (.int .i64 x6_1) rfl rfl rfl ?_
   refine DL.pu 3 (.int .i64 x6_1) rfl (p_assign rfl rfl) ?_
   refine DL.nil ?_
   refine TT.seq (x:=sub [1,0,1,0,0,1,1,0,0,1,0] B50) (y:=sub [1,0,1,0,0,1,1,0,0,1,1] B50) ?_
   refine TT.rg [0,1,2,3,4,5,6,7,8,9,10,11,12,13] [kp,kp,kp,kp,kp,kp,kp,kp,kp,kp,kp,kp,kp,kp] rfl rfl ?_
   refine DL.mv 9 (.int .i64 x6_1) rfl rfl rfl ?_
   refine DL.pu 10 (.bool (decide (x6_1 < 14))) rfl (p_lss rfl rfl rfl) ?_
   refine DL.mv 11 (.bool (decide (x6_1 < 14))) rfl rfl rfl ?_
   obtain ⟨q81,h82,h83⟩:=bind_some h79
   refine DL.cut [(0,str a0),(5,.int .i64 (a0.length : Int)),(6,.int .i64 x6_1),(22,.bool q81)] [] ?_ (fun J84 => ?_)
   ·
    refine DL.nil ?_
    by_cases c100 : q81 = true
    ·
     have h101:=ite_true c100 h83
     refine TT.cond_true (x:=sub [1,0,1,0,0,1,1,0,0,1,1,0] B50) (y:=sub [1,0,1,0,0,1,1,0,0,1,1,1] B50) rfl c100 ?_
     refine TT.seq (x:=sub [1,0,1,0,0,1,1,0,0,1,1,0,0] B50) (y:=sub [1,0,1,0,0,1,1,0,0,1,1,0,1] B50) ?_
     refine TT.rg [0] [kp] rfl rfl ?_
     refine DL.pu 2 (.bool false) rfl (p_assign rfl rfl) ?_
     refine DL.nil ?_
     obtain rfl:=Option.some.inj h101
     have k102 : false = r:=hk
     subst k102
     exact retnE (rs:=[.tmp 2]) (vs:=[.bool false]) hE.base Tryd.func50 rfl rfl rfl (res_cons (ResV.tmp rfl) res_nil) rfl
    ·
     replace c100:=Bool.eq_false_iff.mpr c100
     have h103:=ite_false c100 h83
     refine TT.cond_false (x:=sub [1,0,1,0,0,1,1,0,0,1,1,0] B50) (y:=sub [1,0,1,0,0,1,1,0,0,1,1,1] B50) rfl c100 ?_
     refine TT.skip ?_
     refine TT.inBlock ?_
     refine TT.rg [0,1] [kp,kp] rfl rfl ?_
     refine DL.pu 23 (.int .i64 (IntKind.i64.wrap (x6_1 + 1))) rfl (p_add rfl rfl rfl) ?_
     refine DL.mv 6 (.int .i64 (IntKind.i64.wrap (x6_1 + 1))) rfl rfl rfl ?_
     refine DL.nil ?_
     refine TT.inLoop ?_
     exact TT.weak (ih (IntKind.i64.wrap (x6_1 + 1)) _ h103 hk) (Sub.cons rfl (Sub.cons rfl (Sub.cons rfl (Sub.nil _))))
   ·
    by_cases c85 : (decide (x6_1 < 14)) = true
    ·
     have h86:=ite_true c85 h82
     refine DL.pure (v:=str a0) rfl (Wn.yes c85 rfl rfl rfl rfl) rfl rfl rfl (p_move rfl rfl) ?_
     refine DL.pure (v:=.int .i64 x6_1) rfl (Wn.yes c85 rfl rfl rfl rfl) rfl rfl rfl (p_move rfl rfl) ?_
     obtain ⟨g87,h88⟩:=req_some h86
     obtain ⟨g89,h90⟩:=req_some h88
     refine DL.pure (v:=.int .u8 (chr a0 x6_1.toNat)) rfl (Wn.yes c85 rfl rfl rfl rfl) rfl rfl rfl (p_strIndex ty_u9 g87 g89 rfl rfl rfl) ?_
     refine DL.pure (v:=.bool (decide ((chr a0 x6_1.toNat) < 48))) rfl (Wn.yes c85 rfl rfl rfl rfl) rfl rfl rfl (p_lss rfl rfl rfl) ?_
     refine DL.pure (v:=.bool (decide ((chr a0 x6_1.toNat) < 48))) rfl (Wn.yes c85 rfl rfl rfl rfl) rfl rfl rfl (p_move rfl rfl) ?_
     obtain ⟨q92,h93,h94⟩:=bind_some h90
     refine DL.cut [(0,str a0),(5,.int .i64 (a0.length : Int)),(6,.int .i64 x6_1),(11,.bool (decide (x6_1 < 14))),(12,str a0),(13,.int .i64 x6_1),(14,.int .u8 (chr a0 x6_1.toNat)),(15,.bool (decide ((chr a0 x6_1.toNat) < 48))),(16,.bool (decide ((chr a0 x6_1.toNat) < 48))),(21,.bool q92)] [13] ?_ (fun J95 => ?_)
     ·
      refine DL.pu 22 (.bool q92) rfl (p_pick_t c85 rfl rfl rfl) ?_
      obtain rfl:=Option.some.inj h94
      exact DL.weak J84 (Sub.cons rfl (Sub.cons rfl (Sub.cons rfl (Sub.cons rfl (Sub.nil _)))))
     ·
      by_cases c96 : (decide ((chr a0 x6_1.toNat) < 48)) = true
      ·
       have h97:=ite_true c96 h93
       refine DL.not (i:=8) rfl (Wn.yes c96 rfl rfl rfl rfl) rfl rfl ?_
       refine DL.not (i:=9) rfl (Wn.yes c96 rfl rfl rfl rfl) rfl rfl ?_
       refine DL.not (i:=10) rfl (Wn.yes c96 rfl rfl rfl rfl) rfl rfl ?_
       refine DL.not (i:=11) rfl (Wn.yes c96 rfl rfl rfl rfl) rfl rfl ?_
       refine DL.pure (v:=.bool true) rfl (Wn.yes c85 rfl rfl rfl rfl) rfl rfl rfl (p_pick_t c96 rfl rfl rfl) ?_
       obtain rfl:=Option.some.inj h97
       exact DL.weak J95 (Sub.cons rfl (Sub.cons rfl (Sub.cons rfl (Sub.cons rfl (Sub.cons rfl (Sub.cons rfl (Sub.cons rfl (Sub.cons rfl (Sub.cons rfl (Sub.cons rfl (Sub.nil _)))))))))))
      ·
       replace c96:=Bool.eq_false_iff.mpr c96
       have h98:=ite_false c96 h93
       refine DL.pure (v:=str a0) rfl (Wn.no c96 rfl rfl rfl rfl) rfl rfl rfl (p_move rfl rfl) ?_
       refine DL.pure (v:=.int .i64 x6_1) rfl (Wn.no c96 rfl rfl rfl rfl) rfl rfl rfl (p_move rfl rfl) ?_
       refine DL.pure (v:=.int .u8 (chr a0 x6_1.toNat)) rfl (Wn.no c96 rfl rfl rfl rfl) rfl rfl rfl (p_strIndex ty_u9 g87 g89 rfl rfl rfl) ?_
       refine DL.pure (v:=.bool (decide (57 < (chr a0 x6_1.toNat)))) rfl (Wn.no c96 rfl rfl rfl rfl) rfl rfl rfl (p_gtr rfl rfl rfl) ?_
       refine DL.pure (v:=.bool (decide (57 < (chr a0 x6_1.toNat)))) rfl (Wn.yes c85 rfl rfl rfl rfl) rfl rfl rfl (p_pick_f c96 rfl rfl rfl) ?_
       obtain rfl:=Option.some.inj h98
       exact DL.weak J95 (Sub.cons rfl (Sub.cons rfl (Sub.cons rfl (Sub.cons rfl (Sub.cons rfl (Sub.cons rfl (Sub.cons rfl (Sub.cons rfl (Sub.cons rfl (Sub.cons rfl (Sub.nil _)))))))))))
    ·
     replace c85:=Bool.eq_false_iff.mpr c85
     have h99:=ite_false c85 h82
     refine DL.not (i:=3) rfl (Wn.no c85 rfl rfl rfl rfl) rfl rfl ?_
     refine DL.not (i:=4) rfl (Wn.no c85 rfl rfl rfl rfl) rfl rfl ?_
     refine DL.not (i:=5) rfl (Wn.no c85 rfl rfl rfl rfl) rfl rfl ?_
     refine DL.not (i:=6) rfl (Wn.no c85 rfl rfl rfl rfl) rfl rfl ?_
     refine DL.not (i:=7) rfl (Wn.no c85 rfl rfl rfl rfl) rfl rfl ?_
     refine DL.not (i:=8) rfl (Wn.undef rfl rfl rfl) rfl rfl ?_
     refine DL.not (i:=9) rfl (Wn.undef rfl rfl rfl) rfl rfl ?_
     refine DL.not (i:=10) rfl (Wn.undef rfl rfl rfl) rfl rfl ?_
     refine DL.not (i:=11) rfl (Wn.undef rfl rfl rfl) rfl rfl ?_
     refine DL.not (i:=12) rfl (Wn.no c85 rfl rfl rfl rfl) rfl rfl ?_
     refine DL.pu 22 (.bool false) rfl (p_pick_f c85 rfl rfl rfl) ?_
     obtain rfl:=Option.some.inj h99
     exact DL.weak J84 (Sub.cons rfl (Sub.cons rfl (Sub.cons rfl (Sub.cons rfl (Sub.nil _)))))
  ·
   replace c78:=Bool.eq_false_iff.mpr c78
   have h104:=ite_false c78 h
   refine TT.cond_false (x:=sub [1,0,1,0,0,1,0,0] B50) (y:=sub [1,0,1,0,0,1,0,1] B50) rfl c78 ?_
   refine TT.exit rfl ?_
   obtain rfl:=Option.some.inj h104
   exact TT.weak (hk) (Sub.cons rfl (Sub.nil _))

def der_mayTime.f (a0 : List UInt8) : Option (Bool):=onw (der_mayTime.L0 a0 ((a0.length : Int).toNat + 1) 0) (fun _ => (if ((a0.length : Int) == 15) = true then (req ((14 : Int) < (a0.length : Int)) (some ((chr a0 (14 : Int).toNat) == 90))) else (some false)).bind fun q110 => some q110) (fun r => some r)
set_option maxRecDepth 20000 in
theorem der_mayTime.ok {a0 : List UInt8} {r : Bool} (h : der_mayTime.f a0 = some r) {M : Mem} (w : World) (hM : Ext M (heapOf w)) : Calls Tryd.prog 50 #[str a0] w (Post (fun u => u = .bool r) w):=by
 unfold der_mayTime.f at h
 have hE:=Env.start hM
 refine calls_of_TT (N:=32) (S:=[(0,str a0)]) (c:=B50) Tryd.func50 rfl rfl rfl (by simp) ?_
 show TT _ _ _ _ _ _ [.code (sub [] B50)] _ _
 refine TT.seq (x:=sub [0] B50) (y:=sub [1] B50) ?_
 refine TT.rg [0] [kp] rfl rfl ?_
 refine DL.pu 2 (.bool false) rfl (p_assign rfl rfl) ?_
 refine DL.nil ?_
 refine TT.seq (x:=sub [1,0] B50) (y:=sub [1,1] B50) ?_
 refine TT.seq (x:=sub [1,0,0] B50) (y:=sub [1,0,1] B50) ?_
 refine TT.rg [0,1,2] [kp,kp,kp] rfl rfl ?_
 refine DL.mv 4 (str a0) rfl rfl rfl ?_
 refine DL.pu 5 (.int .i64 (a0.length : Int)) rfl (p_strLen ty_u9 rfl rfl) ?_
 refine DL.mv 6 (.int .i64 0) rfl rfl rfl ?_
 refine DL.nil ?_
 refine TT.block (c:=sub [1,0,1,0] B50) ?_
 refine TT.loop (c:=sub [1,0,1,0,0] B50) ?_
 rcases onw_some h with ⟨_,h105,h106⟩ | ⟨r108,h105,h106⟩
 ·
  refine TT.weak (der_mayTime.L0_ok a0 hE ((a0.length : Int).toNat + 1) 0 (.inl ()) h105 (?_)) (Sub.cons rfl (Sub.cons rfl (Sub.cons rfl (Sub.nil _))))
  show TT _ _ _ _ _ _ _ _ _
  refine TT.seq (x:=sub [1,1,0] B50) (y:=sub [1,1,1] B50) ?_
  refine TT.rg [0,1,2,3,4,5,6,7,8] [kp,kp,kp,kp,kp,kp,kp,kp,kp] rfl rfl ?_
  refine DL.mv 24 (str a0) rfl rfl rfl ?_
  refine DL.pu 25 (.int .i64 (a0.length : Int)) rfl (p_strLen ty_u9 rfl rfl) ?_
  refine DL.pu 26 (.bool ((a0.length : Int) == 15)) rfl (p_eql rfl rfl rfl) ?_
  refine DL.mv 27 (.bool ((a0.length : Int) == 15)) rfl rfl rfl ?_
  obtain ⟨q110,h111,h112⟩:=bind_some h106
  refine DL.cut [(31,.bool q110)] [8] ?_ (fun J113 => ?_)
  ·
   refine DL.pu 2 (.bool q110) rfl (p_assign rfl rfl) ?_
   refine DL.nil ?_
   obtain rfl:=Option.some.inj h112
   exact retnE (rs:=[.tmp 2]) (vs:=[.bool q110]) hE.base Tryd.func50 rfl rfl rfl (res_cons (ResV.tmp rfl) res_nil) rfl
  ·
   by_cases c114 : ((a0.length : Int) == 15) = true
   ·
    have h115:=ite_true c114 h111
    refine DL.pure (v:=str a0) rfl (Wn.yes c114 rfl rfl rfl rfl) rfl rfl rfl (p_move rfl rfl) ?_
    obtain ⟨g116,h117⟩:=req_some h115
    refine DL.pure (v:=.int .u8 (chr a0 (14 : Int).toNat)) rfl (Wn.yes c114 rfl rfl rfl rfl) rfl rfl rfl (p_strIndex ty_u9 (by decide) g116 rfl rfl rfl) ?_
    refine DL.pure (v:=.bool ((chr a0 (14 : Int).toNat) == 90)) rfl (Wn.yes c114 rfl rfl rfl rfl) rfl rfl rfl (p_eql rfl rfl rfl) ?_
    refine DL.pu 31 (.bool ((chr a0 (14 : Int).toNat) == 90)) rfl (p_pick_t c114 rfl rfl rfl) ?_
    obtain rfl:=Option.some.inj h117
    exact DL.weak J113 (Sub.cons rfl (Sub.nil _))
   ·
    replace c114:=Bool.eq_false_iff.mpr c114
    have h118:=ite_false c114 h111
    refine DL.not (i:=4) rfl (Wn.no c114 rfl rfl rfl rfl) rfl rfl ?_
    refine DL.not (i:=5) rfl (Wn.no c114 rfl rfl rfl rfl) rfl rfl ?_
    refine DL.not (i:=6) rfl (Wn.no c114 rfl rfl rfl rfl) rfl rfl ?_
    refine DL.pu 31 (.bool false) rfl (p_pick_f c114 rfl rfl rfl) ?_
    obtain rfl:=Option.some.inj h118
    exact DL.weak J113 (Sub.cons rfl (Sub.nil _))
 ·
  obtain rfl:=Option.some.inj h106
  exact TT.weak (der_mayTime.L0_ok a0 hE ((a0.length : Int).toNat + 1) 0 (.inr r108) h105 rfl) (Sub.cons rfl (Sub.cons rfl (Sub.cons rfl (Sub.nil _))))
theorem der_mayTime.val {a0 : List UInt8} {r : Bool} (h : der_mayTime.f a0 = some r) {M : Mem} (w : World) (hM : Ext M (heapOf w)) : Calls Tryd.prog 50 #[str a0] w fun e w' => e = .returned (.bool r) ∧ Below w.heap.size w w' :=
 calls_value (der_mayTime.ok h w hM)

@[reducible] def ref13_Big.Rec (r_ : Der → Int → Option (Int)) : Prop:=∀ {a0 : Der} {a1 : Int} {a0_3 : Value} {a0_5 : Value} {a0_6 : Value} {r : Int},r_ a0 a1 = some r → ∀ {M : Mem} (w : World) (hM : Ext M (heapOf w)) (hr_a0_3 : IntRow M .u8 a0_3 (Der.bytes a0)) (hr_a0_5 : IntRow M .u64 a0_5 (Der.arcs a0)) (hr_a0_6 : RowS ShDer M a0_6 (Tree.kids a0)),Calls Tryd.prog 25 #[.agg (Der.ce a0 a0_3 a0_5 a0_6),.int .i64 a1] w (fun e w' => e = .returned (.int .i64 r) ∧ Below w.heap.size w w')

end Go.Proofs.YtjhknfpociahoaaDoor
