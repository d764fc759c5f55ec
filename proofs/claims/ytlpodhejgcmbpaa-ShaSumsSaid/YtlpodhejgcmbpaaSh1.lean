import Derived.Test.YtlpodhejgcmbpaaHw17
import Derived.Test.YtlpodhejgcmbpaaShBase
namespace Go.Proofs.Ytlpodhejgcmbpaa
open Go Go.HW Go.RowKit
set_option linter.unusedVariables false
set_option linter.unusedSimpArgs false

theorem mixed : Try.prog.follows .mixedOrders = true := by kernel_rfl
theorem ty_u3 (w : World) : (underlying 3).run Try.prog w = .ok (.int .i64) w := by kernel_rfl
theorem ty_u50 (w : World) : (underlying 50).run Try.prog w = .ok (.int .u64) w := by kernel_rfl
theorem enter22 (args : Array Value) (w : World) : (callFunc 22 args).run Try.prog w = .ok (.enter 22 args) w := by kernel_rfl
theorem ty_z58 (w : World) : (zeroValue 58).run Try.prog w = .ok (.agg (enc .u64 (List.replicate 4 0))) w := by kernel_rfl
theorem ty_u56 (w : World) : (underlying 56).run Try.prog w = .ok (.array 3 35) w := by kernel_rfl
theorem ty_s35 (w : World) : (sizeOf 35).run Try.prog w = .ok 1 w := by kernel_rfl
theorem ty_a35 (w : World) : (isAgg 35).run Try.prog w = .ok false w := by kernel_rfl
theorem enter12 (args : Array Value) (w : World) : (callFunc 12 args).run Try.prog w = .ok (.enter 12 args) w := by kernel_rfl
theorem x23 (x y c : Int) (hc : c ≤ 1) (w : World) : (callFunc 23 #[.int .u64 x, .int .u64 y, .int .u64 c]).run Try.prog w = .ok (.value (.tuple #[.int .u64 (add64 x y c), .int .u64 (add64c x y c)])) w := by
  rw [run_callFunc_extern Try.func23 (by kernel_rfl) (by kernel_rfl) (by kernel_rfl) (e := addEntry) (by kernel_rfl), run_addEntry hc]; rfl
theorem ty_u58 (w : World) : (underlying 58).run Try.prog w = .ok (.array 4 35) w := by kernel_rfl
theorem ty_a58 (w : World) : (isAgg 58).run Try.prog w = .ok true w := by kernel_rfl
theorem ty_s58 (w : World) : (sizeOf 58).run Try.prog w = .ok 4 w := by kernel_rfl
theorem ty_z56 (w : World) : (zeroValue 56).run Try.prog w = .ok (.agg (enc .u64 (List.replicate 3 0))) w := by kernel_rfl
theorem ty_s56 (w : World) : (sizeOf 56).run Try.prog w = .ok 3 w := by kernel_rfl
theorem ty_a56 (w : World) : (isAgg 56).run Try.prog w = .ok true w := by kernel_rfl
theorem enter24 (args : Array Value) (w : World) : (callFunc 24 args).run Try.prog w = .ok (.enter 24 args) w := by kernel_rfl
theorem enter21 (args : Array Value) (w : World) : (callFunc 21 args).run Try.prog w = .ok (.enter 21 args) w := by kernel_rfl
theorem enter16 (args : Array Value) (w : World) : (callFunc 16 args).run Try.prog w = .ok (.enter 16 args) w := by kernel_rfl
theorem ty_f45_0 (a : Addr) (w : World) : (Instr.fieldAt 45 (.pointer (some a)) 0).run Try.prog w = .ok (.pointer (some (a.add 0))) w := by kernel_rfl
theorem ty_u42 (w : World) : (underlying 42).run Try.prog w = .ok (.array 8 35) w := by kernel_rfl
theorem ty_f45_1 (a : Addr) (w : World) : (Instr.fieldAt 45 (.pointer (some a)) 1).run Try.prog w = .ok (.pointer (some (a.add 8))) w := by kernel_rfl
theorem ty_u43 (w : World) : (underlying 43).run Try.prog w = .ok (.array 80 35) w := by kernel_rfl
theorem ty_u52 (w : World) : (underlying 52).run Try.prog w = .ok (.slice 35) w := by kernel_rfl
theorem elem52 : Elem Try.prog 52 35 1 8 (.int .u64 0) := Elem.of (by kernel_rfl) (by kernel_rfl) rfl (by decide)
theorem enter19 (args : Array Value) (w : World) : (callFunc 19 args).run Try.prog w = .ok (.enter 19 args) w := by kernel_rfl
theorem enter20 (args : Array Value) (w : World) : (callFunc 20 args).run Try.prog w = .ok (.enter 20 args) w := by kernel_rfl
theorem ty_z33 (w : World) : (zeroValue 33).run Try.prog w = .ok (.agg #[(.slice none 0 0), (.slice none 0 0)]) w := by kernel_rfl
theorem ty_f33_1 (a : Addr) (w : World) : (Instr.fieldAt 33 (.pointer (some a)) 1).run Try.prog w = .ok (.pointer (some (a.add 1))) w := by kernel_rfl
theorem ty_a31 (w : World) : (isAgg 31).run Try.prog w = .ok false w := by kernel_rfl
theorem ty_u31 (w : World) : (underlying 31).run Try.prog w = .ok (.slice 35) w := by kernel_rfl
theorem ty_f33_0 (a : Addr) (w : World) : (Instr.fieldAt 33 (.pointer (some a)) 0).run Try.prog w = .ok (.pointer (some (a.add 0))) w := by kernel_rfl
theorem enter15 (args : Array Value) (w : World) : (callFunc 15 args).run Try.prog w = .ok (.enter 15 args) w := by kernel_rfl
theorem elem31 : Elem Try.prog 31 35 1 8 (.int .u64 0) := Elem.of (by kernel_rfl) (by kernel_rfl) rfl (by decide)
theorem ty_s31 (w : World) : (sizeOf 31).run Try.prog w = .ok 1 w := by kernel_rfl
theorem ty_a33 (w : World) : (isAgg 33).run Try.prog w = .ok true w := by kernel_rfl
theorem ty_s33 (w : World) : (sizeOf 33).run Try.prog w = .ok 2 w := by kernel_rfl
theorem enter11 (args : Array Value) (w : World) : (callFunc 11 args).run Try.prog w = .ok (.enter 11 args) w := by kernel_rfl
theorem ty_z42 (w : World) : (zeroValue 42).run Try.prog w = .ok (.agg (enc .u64 (List.replicate 8 0))) w := by kernel_rfl
theorem ty_z43 (w : World) : (zeroValue 43).run Try.prog w = .ok (.agg (enc .u64 (List.replicate 80 0))) w := by kernel_rfl
theorem ty_u22 (w : World) : (underlying 22).run Try.prog w = .ok (.slice 5) w := by kernel_rfl
theorem ty_s5 (w : World) : (sizeOf 5).run Try.prog w = .ok 1 w := by kernel_rfl
theorem ty_a5 (w : World) : (isAgg 5).run Try.prog w = .ok false w := by kernel_rfl
theorem ty_u5 (w : World) : (underlying 5).run Try.prog w = .ok (.int .u8) w := by kernel_rfl
theorem ty_u35 (w : World) : (underlying 35).run Try.prog w = .ok (.int .u64) w := by kernel_rfl
theorem enter17 (args : Array Value) (w : World) : (callFunc 17 args).run Try.prog w = .ok (.enter 17 args) w := by kernel_rfl
theorem ty_a42 (w : World) : (isAgg 42).run Try.prog w = .ok true w := by kernel_rfl
theorem ty_s42 (w : World) : (sizeOf 42).run Try.prog w = .ok 8 w := by kernel_rfl
theorem ty_z27 (w : World) : (zeroValue 27).run Try.prog w = .ok (.agg (enc .u8 (List.replicate 64 0))) w := by kernel_rfl
theorem ty_u25 (w : World) : (underlying 25).run Try.prog w = .ok (.slice 22) w := by kernel_rfl
theorem ty_s22 (w : World) : (sizeOf 22).run Try.prog w = .ok 1 w := by kernel_rfl
theorem ty_a22 (w : World) : (isAgg 22).run Try.prog w = .ok false w := by kernel_rfl
theorem elem22 : Elem Try.prog 22 5 1 1 (.int .u8 0) := Elem.of (by kernel_rfl) (by kernel_rfl) rfl (by decide)
theorem enter13 (args : Array Value) (w : World) : (callFunc 13 args).run Try.prog w = .ok (.enter 13 args) w := by kernel_rfl
theorem ty_u27 (w : World) : (underlying 27).run Try.prog w = .ok (.array 64 5) w := by kernel_rfl
theorem ty_a27 (w : World) : (isAgg 27).run Try.prog w = .ok true w := by kernel_rfl
theorem ty_s27 (w : World) : (sizeOf 27).run Try.prog w = .ok 64 w := by kernel_rfl
theorem ty_ue3 : Try.prog.underlying 3 = some (.int .i64) := by kernel_rfl
theorem ty_us31 : Try.prog.underlying 31 = some (.slice 35) := by kernel_rfl
theorem ty_sz35 : (Try.prog.info? 35).map (·.size) = some 1 := by kernel_rfl
theorem enter18 (args : Array Value) (w : World) : (callFunc 18 args).run Try.prog w = .ok (.enter 18 args) w := by kernel_rfl
theorem enter8 (args : Array Value) (w : World) : (callFunc 8 args).run Try.prog w = .ok (.enter 8 args) w := by kernel_rfl
theorem enter14 (args : Array Value) (w : World) : (callFunc 14 args).run Try.prog w = .ok (.enter 14 args) w := by kernel_rfl
theorem ty_us22 : Try.prog.underlying 22 = some (.slice 5) := by kernel_rfl
theorem ty_us5 : Try.prog.underlying 5 = some (.int .u8) := by kernel_rfl
theorem elem25 : Elem Try.prog 25 22 1 24 ((.slice none 0 0)) := Elem.of (by kernel_rfl) (by kernel_rfl) rfl (by decide)
theorem enter6 (args : Array Value) (w : World) : (callFunc 6 args).run Try.prog w = .ok (.enter 6 args) w := by kernel_rfl
theorem ty_u23 (w : World) : (underlying 23).run Try.prog w = .ok (.slice 3) w := by kernel_rfl
theorem enter5 (args : Array Value) (w : World) : (callFunc 5 args).run Try.prog w = .ok (.enter 5 args) w := by kernel_rfl
theorem ty_s3 (w : World) : (sizeOf 3).run Try.prog w = .ok 1 w := by kernel_rfl
theorem ty_a3 (w : World) : (isAgg 3).run Try.prog w = .ok false w := by kernel_rfl
theorem enter7 (args : Array Value) (w : World) : (callFunc 7 args).run Try.prog w = .ok (.enter 7 args) w := by kernel_rfl
theorem ty_g27 : Try.prog.eqGuardType Try.prog.depth 27 = false := by kernel_rfl
theorem ty_ue27 : Try.prog.underlying 27 = some (.array 64 5) := by kernel_rfl
theorem ty_ue5 : Try.prog.underlying 5 = some (.int .u8) := by kernel_rfl
theorem enter9 (args : Array Value) (w : World) : (callFunc 9 args).run Try.prog w = .ok (.enter 9 args) w := by kernel_rfl
theorem enter10 (args : Array Value) (w : World) : (callFunc 10 args).run Try.prog w = .ok (.enter 10 args) w := by kernel_rfl

/-! ### math/bits.RotateLeft64: function 22 -/
noncomputable def B22 : Code := bodyOf Try.f22
def bits_RotateLeft64.f (a0 : Int) (a1 : Int) : Option (Int) := req (0 ≤ (iand .u64 (IntKind.u64.wrap a1) 63)) (nm (ishl .u64 a0 (iand .u64 (IntKind.u64.wrap a1) 63)) fun t3 => nm (IntKind.u64.wrap (64 - (iand .u64 (IntKind.u64.wrap a1) 63))) fun t6 => req (0 ≤ t6) (some (ior .u64 t3 (ishr .u64 a0 t6))))
set_option maxRecDepth 20000 in
theorem bits_RotateLeft64.ok {a0 : Int} {a1 : Int} {r : Int} (h : bits_RotateLeft64.f a0 a1 = some r) {M : Mem} (w : World) (hM : Ext M (heapOf w)) : Calls Try.prog 22 #[.int .u64 a0, .int .i64 a1] w (Post (fun u => u = .int .u64 r) w) := by
  unfold bits_RotateLeft64.f at h
  have hE := Env.start hM
  refine calls_of_TT (N := 17) (S := [(0, .int .u64 a0), (1, .int .i64 a1)]) (c := B22) Try.func22 rfl rfl rfl (by simp) ?_
  show TT _ _ _ _ _ _ [.code (sub [] B22)] _ _
  refine TT.seq (x := sub [0] B22) (y := sub [1] B22) ?_
  refine TT.region (id := 0) (n := 1) (ops := (opsOf (sub [0] B22))) [(.pure, none)] rfl ?_
  show DL _ _ _ _ _ _ _ _ _ _ [0] _ _
  refine DL.pu 4 (.int .u64 0) rfl (p_assign rfl rfl) ?_
  refine DL.nil ?_
  refine TT.seq (x := sub [1, 0] B22) (y := sub [1, 1] B22) ?_
  refine TT.region (id := 1) (n := 4) (ops := (opsOf (sub [1, 0] B22))) [(.pure, none), (.pure, none), (.pure, none), (.pure, none)] rfl ?_
  show DL _ _ _ _ _ _ _ _ _ _ [0, 1, 2, 3] _ _
  refine DL.pu 6 (.int .i64 a1) rfl (p_move rfl rfl) ?_
  refine DL.pu 7 (.int .u64 (IntKind.u64.wrap a1)) rfl (p_conv ty_u3 ty_u50 ⟨_, rfl⟩ rfl rfl) ?_
  refine DL.pu 8 (.int .u64 (iand .u64 (IntKind.u64.wrap a1) 63)) rfl (p_and rfl rfl rfl) ?_
  refine DL.pu 5 (.int .u64 (iand .u64 (IntKind.u64.wrap a1) 63)) rfl (p_assign rfl rfl) ?_
  refine DL.nil ?_
  refine TT.seq (x := sub [1, 1, 0] B22) (y := sub [1, 1, 1] B22) ?_
  refine TT.region (id := 2) (n := 9) (ops := (opsOf (sub [1, 1, 0] B22))) [(.pure, none), (.pure, none), (.pure, none), (.pure, none), (.pure, none), (.pure, none), (.pure, none), (.pure, none), (.pure, none)] rfl ?_
  show DL _ _ _ _ _ _ _ _ _ _ [0, 1, 2, 3, 4, 5, 6, 7, 8] _ _
  refine DL.pu 9 (.int .u64 a0) rfl (p_move rfl rfl) ?_
  refine DL.pu 10 (.int .u64 (iand .u64 (IntKind.u64.wrap a1) 63)) rfl (p_move rfl rfl) ?_
  obtain ⟨g1, h2⟩ := req_some h
  obtain ⟨t3, e4, h5⟩ := nm_some h2
  refine DL.pu 11 (.int .u64 t3) rfl (by rw [e4]; exact p_shl g1 rfl rfl rfl) ?_
  refine DL.pu 12 (.int .u64 a0) rfl (p_move rfl rfl) ?_
  refine DL.pu 13 (.int .u64 (iand .u64 (IntKind.u64.wrap a1) 63)) rfl (p_move rfl rfl) ?_
  obtain ⟨t6, e7, h8⟩ := nm_some h5
  refine DL.pu 14 (.int .u64 t6) rfl (by rw [e7]; exact p_sub rfl rfl rfl) ?_
  obtain ⟨g9, h10⟩ := req_some h8
  refine DL.pu 15 (.int .u64 (ishr .u64 a0 t6)) rfl (p_shr g9 rfl rfl rfl) ?_
  refine DL.pu 16 (.int .u64 (ior .u64 t3 (ishr .u64 a0 t6))) rfl (p_or rfl rfl rfl) ?_
  refine DL.pu 4 (.int .u64 (ior .u64 t3 (ishr .u64 a0 t6))) rfl (p_assign rfl rfl) ?_
  refine DL.nil ?_
  obtain rfl := Option.some.inj h10
  exact retnE (rs := [.tmp 4]) (vs := [.int .u64 (ior .u64 t3 (ishr .u64 a0 t6))]) hE.base Try.func22 rfl rfl rfl (res_cons (ResV.tmp rfl) res_nil) rfl
theorem bits_RotateLeft64.val {a0 : Int} {a1 : Int} {r : Int} (h : bits_RotateLeft64.f a0 a1 = some r) {M : Mem} (w : World) (hM : Ext M (heapOf w)) : Calls Try.prog 22 #[.int .u64 a0, .int .i64 a1] w fun e w' => e = .returned (.int .u64 r) ∧ Below w.heap.size w w' :=
  calls_value (bits_RotateLeft64.ok h w hM)

/-! ### escutcheon/sha.turn: function 17 -/
noncomputable def B17 : Code := bodyOf Try.f17
def sha_turn.f (a0 : Int) (a1 : Int) : Option (Int) := (bits_RotateLeft64.f a0 (IntKind.i64.wrap (0 - a1))).bind fun t1 => some t1
set_option maxRecDepth 20000 in
theorem sha_turn.ok {a0 : Int} {a1 : Int} {r : Int} (h : sha_turn.f a0 a1 = some r) {M : Mem} (w : World) (hM : Ext M (heapOf w)) : Calls Try.prog 17 #[.int .u64 a0, .int .i64 a1] w (Post (fun u => u = .int .u64 r) w) := by
  unfold sha_turn.f at h
  have hE := Env.start hM
  refine calls_of_TT (N := 9) (S := [(0, .int .u64 a0), (1, .int .i64 a1)]) (c := B17) Try.func17 rfl rfl rfl (by simp) ?_
  show TT _ _ _ _ _ _ [.code (sub [] B17)] _ _
  refine TT.seq (x := sub [0] B17) (y := sub [1] B17) ?_
  refine TT.region (id := 0) (n := 1) (ops := (opsOf (sub [0] B17))) [(.pure, none)] rfl ?_
  show DL _ _ _ _ _ _ _ _ _ _ [0] _ _
  refine DL.pu 4 (.int .u64 0) rfl (p_assign rfl rfl) ?_
  refine DL.nil ?_
  refine TT.seq (x := sub [1, 0] B17) (y := sub [1, 1] B17) ?_
  refine TT.region (id := 1) (n := 5) (ops := (opsOf (sub [1, 0] B17))) [(.pure, none), (.pure, none), (.pure, none), (.quiet, none), (.pure, none)] rfl ?_
  show DL _ _ _ _ _ _ _ _ _ _ [0, 1, 2, 3, 4] _ _
  refine DL.pu 5 (.int .u64 a0) rfl (p_move rfl rfl) ?_
  refine DL.pu 6 (.int .i64 a1) rfl (p_move rfl rfl) ?_
  refine DL.pu 7 (.int .i64 (IntKind.i64.wrap (0 - a1))) rfl (p_neg rfl rfl) ?_
  obtain ⟨t1, h2, h3⟩ := bind_some h
  refine DL.qu 8 (.int .u64 t1) rfl (f_callR rfl rfl (args_val (vs := [.int .u64 a0, .int .i64 (IntKind.i64.wrap (0 - a1))]) rfl) (fun w => enter22 _ w) (fun w hc => bits_RotateLeft64.val h2 (M := M) w (hE.ext hc) )) ?_
  refine DL.pu 4 (.int .u64 t1) rfl (p_assign rfl rfl) ?_
  refine DL.nil ?_
  obtain rfl := Option.some.inj h3
  exact retnE (rs := [.tmp 4]) (vs := [.int .u64 t1]) hE.base Try.func17 rfl rfl rfl (res_cons (ResV.tmp rfl) res_nil) rfl
theorem sha_turn.val {a0 : Int} {a1 : Int} {r : Int} (h : sha_turn.f a0 a1 = some r) {M : Mem} (w : World) (hM : Ext M (heapOf w)) : Calls Try.prog 17 #[.int .u64 a0, .int .i64 a1] w fun e w' => e = .returned (.int .u64 r) ∧ Below w.heap.size w w' :=
  calls_value (sha_turn.ok h w hM)

/-! ### escutcheon/escutcheonref05.ror: function 18 -/
noncomputable def B18 : Code := bodyOf Try.f18
def ref05_ror.f (a0 : Int) (a1 : Int) : Option (Int) := req (0 ≤ a1) (req (0 ≤ (IntKind.u64.wrap (64 - a1))) (nm (ior .u64 (ishr .u64 a0 a1) (ishl .u64 a0 (IntKind.u64.wrap (64 - a1)))) fun t5 => some t5))
set_option maxRecDepth 20000 in
theorem ref05_ror.ok {a0 : Int} {a1 : Int} {r : Int} (h : ref05_ror.f a0 a1 = some r) {M : Mem} (w : World) (hM : Ext M (heapOf w)) : Calls Try.prog 18 #[.int .u64 a0, .int .u64 a1] w (Post (fun u => u = .int .u64 r) w) := by
  unfold ref05_ror.f at h
  have hE := Env.start hM
  refine calls_of_TT (N := 13) (S := [(0, .int .u64 a0), (1, .int .u64 a1)]) (c := B18) Try.func18 rfl rfl rfl (by simp) ?_
  show TT _ _ _ _ _ _ [.code (sub [] B18)] _ _
  refine TT.seq (x := sub [0] B18) (y := sub [1] B18) ?_
  refine TT.region (id := 0) (n := 1) (ops := (opsOf (sub [0] B18))) [(.pure, none)] rfl ?_
  show DL _ _ _ _ _ _ _ _ _ _ [0] _ _
  refine DL.pu 4 (.int .u64 0) rfl (p_assign rfl rfl) ?_
  refine DL.nil ?_
  refine TT.seq (x := sub [1, 0] B18) (y := sub [1, 1] B18) ?_
  refine TT.region (id := 1) (n := 9) (ops := (opsOf (sub [1, 0] B18))) [(.pure, none), (.pure, none), (.pure, none), (.pure, none), (.pure, none), (.pure, none), (.pure, none), (.pure, none), (.pure, none)] rfl ?_
  show DL _ _ _ _ _ _ _ _ _ _ [0, 1, 2, 3, 4, 5, 6, 7, 8] _ _
  refine DL.pu 5 (.int .u64 a0) rfl (p_move rfl rfl) ?_
  refine DL.pu 6 (.int .u64 a1) rfl (p_move rfl rfl) ?_
  obtain ⟨g1, h2⟩ := req_some h
  refine DL.pu 7 (.int .u64 (ishr .u64 a0 a1)) rfl (p_shr g1 rfl rfl rfl) ?_
  refine DL.pu 8 (.int .u64 a0) rfl (p_move rfl rfl) ?_
  refine DL.pu 9 (.int .u64 a1) rfl (p_move rfl rfl) ?_
  refine DL.pu 10 (.int .u64 (IntKind.u64.wrap (64 - a1))) rfl (p_sub rfl rfl rfl) ?_
  obtain ⟨g3, h4⟩ := req_some h2
  refine DL.pu 11 (.int .u64 (ishl .u64 a0 (IntKind.u64.wrap (64 - a1)))) rfl (p_shl g3 rfl rfl rfl) ?_
  obtain ⟨t5, e6, h7⟩ := nm_some h4
  refine DL.pu 12 (.int .u64 t5) rfl (by rw [e6]; exact p_or rfl rfl rfl) ?_
  refine DL.pu 4 (.int .u64 t5) rfl (p_assign rfl rfl) ?_
  refine DL.nil ?_
  obtain rfl := Option.some.inj h7
  exact retnE (rs := [.tmp 4]) (vs := [.int .u64 t5]) hE.base Try.func18 rfl rfl rfl (res_cons (ResV.tmp rfl) res_nil) rfl
theorem ref05_ror.val {a0 : Int} {a1 : Int} {r : Int} (h : ref05_ror.f a0 a1 = some r) {M : Mem} (w : World) (hM : Ext M (heapOf w)) : Calls Try.prog 18 #[.int .u64 a0, .int .u64 a1] w fun e w' => e = .returned (.int .u64 r) ∧ Below w.heap.size w w' :=
  calls_value (ref05_ror.ok h w hM)

/-! ### escutcheon/sha.times: function 24 -/
noncomputable def B24 : Code := bodyOf Try.f24
def sha_times.L0 (a0 : List Int) (a1 : Int) : Nat → Int → Int → (List Int) → Option (Int × List Int)
  | 0, _, _, _ => none
  | k + 1, x5_3, x10_4, y_5 => if (decide (x10_4 < 3)) = true then (req (0 ≤ x10_4) (req (x10_4 < 3) (req (0 ≤ (a0.getD x10_4.toNat 0)) (req ((a0.getD x10_4.toNat 0) < 18446744073709551616) (req (0 ≤ a1) (req (a1 < 18446744073709551616) (nm (mul64h (a0.getD x10_4.toNat 0) a1) fun t101 => nm (mul64l (a0.getD x10_4.toNat 0) a1) fun t104 => nm (add64 t104 x5_3 0) fun t107 => nm (add64c t104 x5_3 0) fun t110 => req (x10_4 < 4) (sha_times.L0 a0 a1 k (IntKind.u64.wrap (t101 + t110)) (IntKind.i64.wrap (x10_4 + 1)) (y_5.set x10_4.toNat t107))))))))) else (some (x5_3, y_5))
set_option maxRecDepth 20000 in
theorem sha_times.L0_ok (a0 : List Int) (a1 : Int) (b1 : Nat) (b2 : Nat) {R : Ending → World → Prop} {w0 : World} {M0 M I : Mem} {K : List Item} (hE : Env w0 M0 M I) (l_a0 : a0.length = 3) :
    ∀ (k : Nat) (x5_3 : Int) (x10_4 : Int) (y_5 : List Int) (r0_ : Int) (r1_ : List Int) (l_y_5 : y_5.length = 4) (h : sha_times.L0 a0 a1 k x5_3 x10_4 y_5 = some (r0_, r1_)) (hk : r1_.length = 4 → TT Try.prog 24 R 37 w0 I K [(4, ptr b2 0), (5, .int .u64 r0_)] [(some b2, .cells (enc .u64 r1_) 58 (0, 0)), (some b1, .cells (enc .u64 a0) 56 (0, 0))]),
      TT Try.prog 24 R 37 w0 I (.code (sub [1, 1, 0, 1, 0, 0] B24) :: .inLoop (sub [1, 1, 0, 1, 0, 0] B24) :: .inBlock 0 :: K) [(1, .int .u64 a1), (2, ptr b1 0), (4, ptr b2 0), (5, .int .u64 x5_3), (10, .int .i64 x10_4)] [(some b2, .cells (enc .u64 y_5) 58 (0, 0)), (some b1, .cells (enc .u64 a0) 56 (0, 0))] := by
  intro k
  induction k with
  | zero => intro x5_3 x10_4 y_5 r0_ r1_ l_y_5 h; simp [sha_times.L0] at h
  | succ k ih =>
    intro x5_3 x10_4 y_5 r0_ r1_ l_y_5 h hk
    unfold sha_times.L0 at h
    refine TT.seq (x := sub [1, 1, 0, 1, 0, 0, 0] B24) (y := sub [1, 1, 0, 1, 0, 0, 1] B24) ?_
    refine TT.region (id := 3) (n := 1) (ops := (opsOf (sub [1, 1, 0, 1, 0, 0, 0] B24))) [(.pure, none)] rfl ?_
    show DL _ _ _ _ _ _ _ _ _ _ [0] _ _
    refine DL.pu 11 (.bool (decide (x10_4 < 3))) rfl (p_lss rfl rfl rfl) ?_
    refine DL.nil ?_
    refine TT.seq (x := sub [1, 1, 0, 1, 0, 0, 1, 0] B24) (y := sub [1, 1, 0, 1, 0, 0, 1, 1] B24) ?_
    by_cases c87 : (decide (x10_4 < 3)) = true
    · have h88 := ite_true c87 h
      refine TT.cond_true (x := sub [1, 1, 0, 1, 0, 0, 1, 0, 0] B24) (y := sub [1, 1, 0, 1, 0, 0, 1, 0, 1] B24) rfl c87 ?_
      refine TT.skip ?_
      refine TT.seq (x := sub [1, 1, 0, 1, 0, 0, 1, 1, 0] B24) (y := sub [1, 1, 0, 1, 0, 0, 1, 1, 1] B24) ?_
      refine TT.block (c := sub [1, 1, 0, 1, 0, 0, 1, 1, 0, 0] B24) ?_
      refine TT.seq (x := sub [1, 1, 0, 1, 0, 0, 1, 1, 0, 0, 0] B24) (y := sub [1, 1, 0, 1, 0, 0, 1, 1, 0, 0, 1] B24) ?_
      refine TT.region (id := 4) (n := 2) (ops := (opsOf (sub [1, 1, 0, 1, 0, 0, 1, 1, 0, 0, 0] B24))) [(.pure, none), (.pure, none)] rfl ?_
      show DL _ _ _ _ _ _ _ _ _ _ [0, 1] _ _
      refine DL.pu 12 (.int .i64 x10_4) rfl (p_move rfl rfl) ?_
      refine DL.pu 6 (.int .i64 x10_4) rfl (p_assign rfl rfl) ?_
      refine DL.nil ?_
      refine TT.seq (x := sub [1, 1, 0, 1, 0, 0, 1, 1, 0, 0, 1, 0] B24) (y := sub [1, 1, 0, 1, 0, 0, 1, 1, 0, 0, 1, 1] B24) ?_
      refine TT.region (id := 5) (n := 10) (ops := (opsOf (sub [1, 1, 0, 1, 0, 0, 1, 1, 0, 0, 1, 0] B24))) [(.pure, none), (.pure, none), (.quiet, none), (.pure, none), (.quiet, none), (.pure, none), (.pure, none), (.pure, none), (.pure, none), (.pure, none)] rfl ?_
      show DL _ _ _ _ _ _ _ _ _ _ [0, 1, 2, 3, 4, 5, 6, 7, 8, 9] _ _
      refine DL.pu 14 (.int .i64 x10_4) rfl (p_move rfl rfl) ?_
      obtain ⟨g89, h90⟩ := req_some h88
      obtain ⟨g91, h92⟩ := req_some h90
      refine DL.pu 15 (ptr b1 x10_4.toNat) rfl (p_ix ty_u56 ty_s35 g89 g91 rfl rfl rfl) ?_
      refine DL.qu 16 (.int .u64 (a0.getD x10_4.toNat 0)) rfl (f_load (j := 1) ty_a35 rfl (enc_at l_a0 g89 g91) rfl rfl) ?_
      refine DL.pu 17 (.int .u64 a1) rfl (p_move rfl rfl) ?_
      obtain ⟨g93, h94⟩ := req_some h92
      obtain ⟨g95, h96⟩ := req_some h94
      obtain ⟨g97, h98⟩ := req_some h96
      obtain ⟨g99, h100⟩ := req_some h98
      obtain ⟨t101, e102, h103⟩ := nm_some h100
      obtain ⟨t104, e105, h106⟩ := nm_some h103
      refine DL.qu 18 (.tuple #[.int .u64 t101, .int .u64 t104]) rfl (by rw [e102, e105]; exact f_mul64 g93 g95 g97 g99 Try.bits_Mul64 rfl rfl (args_val (vs := [.int .u64 (a0.getD x10_4.toNat 0), .int .u64 a1]) rfl) (fun w => enter12 _ w)) ?_
      refine DL.pu 13 (.tuple #[.int .u64 t101, .int .u64 t104]) rfl (p_move rfl rfl) ?_
      refine DL.pu 19 (.int .u64 t101) rfl (p_extract rfl rfl rfl) ?_
      refine DL.pu 20 (.int .u64 t104) rfl (p_extract rfl rfl rfl) ?_
      refine DL.pu 7 (.int .u64 t101) rfl (p_assign rfl rfl) ?_
      refine DL.pu 8 (.int .u64 t104) rfl (p_assign rfl rfl) ?_
      refine DL.nil ?_
      refine TT.seq (x := sub [1, 1, 0, 1, 0, 0, 1, 1, 0, 0, 1, 1, 0] B24) (y := sub [1, 1, 0, 1, 0, 0, 1, 1, 0, 0, 1, 1, 1] B24) ?_
      refine TT.region (id := 6) (n := 1) (ops := (opsOf (sub [1, 1, 0, 1, 0, 0, 1, 1, 0, 0, 1, 1, 0] B24))) [(.pure, none)] rfl ?_
      show DL _ _ _ _ _ _ _ _ _ _ [0] _ _
      refine DL.pu 9 (.int .u64 0) rfl (p_assign rfl rfl) ?_
      refine DL.nil ?_
      refine TT.seq (x := sub [1, 1, 0, 1, 0, 0, 1, 1, 0, 0, 1, 1, 1, 0] B24) (y := sub [1, 1, 0, 1, 0, 0, 1, 1, 0, 0, 1, 1, 1, 1] B24) ?_
      refine TT.region (id := 7) (n := 8) (ops := (opsOf (sub [1, 1, 0, 1, 0, 0, 1, 1, 0, 0, 1, 1, 1, 0] B24))) [(.pure, none), (.pure, none), (.quiet, none), (.pure, none), (.pure, none), (.pure, none), (.pure, none), (.pure, none)] rfl ?_
      show DL _ _ _ _ _ _ _ _ _ _ [0, 1, 2, 3, 4, 5, 6, 7] _ _
      refine DL.pu 22 (.int .u64 t104) rfl (p_move rfl rfl) ?_
      refine DL.pu 23 (.int .u64 x5_3) rfl (p_move rfl rfl) ?_
      obtain ⟨t107, e108, h109⟩ := nm_some h106
      obtain ⟨t110, e111, h112⟩ := nm_some h109
      refine DL.qu 24 (.tuple #[.int .u64 t107, .int .u64 t110]) rfl (by rw [e108, e111]; exact f_extern rfl rfl (args_val (vs := [.int .u64 t104, .int .u64 x5_3, .int .u64 0]) rfl) (fun w => x23 _ _ _ (by decide) w)) ?_
      refine DL.pu 21 (.tuple #[.int .u64 t107, .int .u64 t110]) rfl (p_move rfl rfl) ?_
      refine DL.pu 25 (.int .u64 t107) rfl (p_extract rfl rfl rfl) ?_
      refine DL.pu 26 (.int .u64 t110) rfl (p_extract rfl rfl rfl) ?_
      refine DL.pu 8 (.int .u64 t107) rfl (p_assign rfl rfl) ?_
      refine DL.pu 9 (.int .u64 t110) rfl (p_assign rfl rfl) ?_
      refine DL.nil ?_
      refine TT.region (id := 8) (n := 8) (ops := (opsOf (sub [1, 1, 0, 1, 0, 0, 1, 1, 0, 0, 1, 1, 1, 1] B24))) [(.pure, none), (.pure, none), (.pure, none), (.pure, none), (.pure, none), (.pure, none), (.store, none), (.pure, none)] rfl ?_
      show DL _ _ _ _ _ _ _ _ _ _ [0, 1, 2, 3, 4, 5, 6, 7] _ _
      refine DL.pu 27 (.int .i64 x10_4) rfl (p_move rfl rfl) ?_
      refine DL.pu 28 (.int .u64 t107) rfl (p_move rfl rfl) ?_
      refine DL.pu 29 (.int .u64 t101) rfl (p_move rfl rfl) ?_
      refine DL.pu 30 (.int .u64 t110) rfl (p_move rfl rfl) ?_
      refine DL.pu 31 (.int .u64 (IntKind.u64.wrap (t101 + t110))) rfl (p_add rfl rfl rfl) ?_
      obtain ⟨g113, h114⟩ := req_some h112
      refine DL.pu 32 (ptr b2 x10_4.toNat) rfl (p_ix ty_u58 ty_s35 g89 g113 rfl rfl rfl) ?_
      refine DL.put (H' := [(some b2, .cells (enc .u64 (y_5.set x10_4.toNat t107)) 58 (0, 0)), (some b1, .cells (enc .u64 a0) 56 (0, 0))]) (i := 6) rfl (Wn.none rfl) rfl rfl (f_storeE (j := 0) ty_s35 rfl (lt_nat l_y_5 g89 g113) rfl rfl rfl) (keep_none rfl) ?_
      refine DL.pu 5 (.int .u64 (IntKind.u64.wrap (t101 + t110))) rfl (p_assign rfl rfl) ?_
      refine DL.nil ?_
      refine TT.inBlock ?_
      refine TT.region (id := 9) (n := 2) (ops := (opsOf (sub [1, 1, 0, 1, 0, 0, 1, 1, 1] B24))) [(.pure, none), (.pure, none)] rfl ?_
      show DL _ _ _ _ _ _ _ _ _ _ [0, 1] _ _
      refine DL.pu 33 (.int .i64 (IntKind.i64.wrap (x10_4 + 1))) rfl (p_add rfl rfl rfl) ?_
      refine DL.pu 10 (.int .i64 (IntKind.i64.wrap (x10_4 + 1))) rfl (p_move rfl rfl) ?_
      refine DL.nil ?_
      refine TT.inLoop ?_
      exact TT.weak (ih (IntKind.u64.wrap (t101 + t110)) (IntKind.i64.wrap (x10_4 + 1)) (y_5.set x10_4.toNat t107) r0_ r1_ (len_set l_y_5) h114 hk) (Sub.cons rfl (Sub.cons rfl (Sub.cons rfl (Sub.cons rfl (Sub.cons rfl (Sub.nil _))))))
    · replace c87 := Bool.eq_false_iff.mpr c87
      have h115 := ite_false c87 h
      refine TT.cond_false (x := sub [1, 1, 0, 1, 0, 0, 1, 0, 0] B24) (y := sub [1, 1, 0, 1, 0, 0, 1, 0, 1] B24) rfl c87 ?_
      refine TT.exit rfl ?_
      simp only [Option.some.injEq, Prod.mk.injEq] at h115
      obtain ⟨rfl, rfl⟩ := h115
      exact TT.weak (hk l_y_5) (Sub.cons rfl (Sub.cons rfl (Sub.nil _)))

def sha_times.f (a0 : List Int) (a1 : Int) : Option ((List Int)) := (sha_times.L0 a0 a1 4 0 0 (List.replicate 4 0)).bind fun (z5_85, z_b2_86) => some (z_b2_86.set ((3 : Int).toNat) z5_85)
set_option maxRecDepth 20000 in
theorem sha_times.ok {a0 : List Int} {a1 : Int} {r : List Int} (l_a0 : a0.length = 3) (h : sha_times.f a0 a1 = some r) {M : Mem} (w : World) (hM : Ext M (heapOf w)) : Calls Try.prog 24 #[.agg (enc .u64 a0), .int .u64 a1] w (Post (fun u => u = .agg (enc .u64 r)) w) := by
  unfold sha_times.f at h
  have hE := Env.start hM
  refine calls_of_TT (N := 37) (S := [(0, .agg (enc .u64 a0)), (1, .int .u64 a1)]) (c := B24) Try.func24 rfl rfl rfl (by simp) ?_
  show TT _ _ _ _ _ _ [.code (sub [] B24)] _ _
  refine TT.seq (x := sub [0] B24) (y := sub [1] B24) ?_
  refine TT.region (id := 0) (n := 2) (ops := (opsOf (sub [0] B24))) [(.alloc, none), (.alloc, none)] rfl ?_
  show DL _ _ _ _ _ _ _ _ _ _ [0, 1] _ _
  refine DL.new (ob := .cells (enc .u64 a0) 56) (mk := fun b => ptr b 0) (i := 0) rfl (Wn.none rfl) rfl rfl rfl (f_box (v := .agg (enc .u64 a0)) rfl rfl) ?_
  intro b1 hb1
  refine DL.new (ob := .cells (enc .u64 (List.replicate 4 0)) 58) (mk := fun b => ptr b 0) (i := 1) rfl (Wn.none rfl) rfl rfl rfl (f_alloc ty_z58 rfl) ?_
  intro b2 hb2
  refine DL.nil ?_
  refine TT.seq (x := sub [1, 0] B24) (y := sub [1, 1] B24) ?_
  refine TT.region (id := 1) (n := 1) (ops := (opsOf (sub [1, 0] B24))) [(.pure, none)] rfl ?_
  show DL _ _ _ _ _ _ _ _ _ _ [0] _ _
  refine DL.pu 5 (.int .u64 0) rfl (p_assign rfl rfl) ?_
  refine DL.nil ?_
  refine TT.seq (x := sub [1, 1, 0] B24) (y := sub [1, 1, 1] B24) ?_
  refine TT.seq (x := sub [1, 1, 0, 0] B24) (y := sub [1, 1, 0, 1] B24) ?_
  refine TT.region (id := 2) (n := 1) (ops := (opsOf (sub [1, 1, 0, 0] B24))) [(.pure, none)] rfl ?_
  show DL _ _ _ _ _ _ _ _ _ _ [0] _ _
  refine DL.pu 10 (.int .i64 0) rfl (p_move rfl rfl) ?_
  refine DL.nil ?_
  refine TT.block (c := sub [1, 1, 0, 1, 0] B24) ?_
  refine TT.loop (c := sub [1, 1, 0, 1, 0, 0] B24) ?_
  obtain ⟨⟨z5_85, z_b2_86⟩, h116, h117⟩ := bind_some h
  refine TT.weak (sha_times.L0_ok a0 a1 b1 b2 hE l_a0 4 0 0 (List.replicate 4 0) z5_85 z_b2_86 (List.length_replicate) h116 (fun l_z_b2_86 => ?_)) (Sub.cons rfl (Sub.cons rfl (Sub.cons rfl (Sub.cons rfl (Sub.cons rfl (Sub.nil _))))))
  refine TT.seq (x := sub [1, 1, 1, 0] B24) (y := sub [1, 1, 1, 1] B24) ?_
  refine TT.region (id := 10) (n := 3) (ops := (opsOf (sub [1, 1, 1, 0] B24))) [(.pure, none), (.pure, none), (.store, none)] rfl ?_
  show DL _ _ _ _ _ _ _ _ _ _ [0, 1, 2] _ _
  refine DL.pu 34 (.int .u64 z5_85) rfl (p_move rfl rfl) ?_
  refine DL.pu 35 (ptr b2 ((3 : Int).toNat)) rfl (p_ix ty_u58 ty_s35 (by decide) (by decide) rfl rfl rfl) ?_
  refine DL.put (H' := [(some b2, .cells (enc .u64 (z_b2_86.set ((3 : Int).toNat) z5_85)) 58 (0, 0)), (some b1, .cells (enc .u64 a0) 56 (0, 0))]) (i := 2) rfl (Wn.none rfl) rfl rfl (f_storeE (j := 0) ty_s35 rfl (lt_nat l_z_b2_86 (by decide) (by decide)) rfl rfl rfl) (keep_none rfl) ?_
  refine DL.nil ?_
  refine TT.seq (x := sub [1, 1, 1, 1, 0] B24) (y := sub [1, 1, 1, 1, 1] B24) ?_
  refine TT.region (id := 11) (n := 2) (ops := (opsOf (sub [1, 1, 1, 1, 0] B24))) [(.quiet, none), (.store, none)] rfl ?_
  show DL _ _ _ _ _ _ _ _ _ _ [0, 1] _ _
  refine DL.qu 36 (.agg (enc .u64 (z_b2_86.set ((3 : Int).toNat) z5_85))) rfl (f_loadA (j := 0) ty_a58 ty_s58 rfl (enc_sz (len_set l_z_b2_86)) rfl rfl) ?_
  refine DL.put (H' := [(some b2, .cells (enc .u64 (z_b2_86.set ((3 : Int).toNat) z5_85)) 58 (0, 0)), (some b1, .cells (enc .u64 a0) 56 (0, 0))]) (i := 1) rfl (Wn.none rfl) rfl rfl (f_storeA (j := 0) ty_s58 rfl (enc_sz (len_set l_z_b2_86)) (enc_sz (len_set l_z_b2_86)) (enc_oneCell _ _) rfl rfl rfl) (keep_none rfl) ?_
  refine DL.nil ?_
  obtain rfl := Option.some.inj h117
  exact retnE (rs := [.cell 4 58]) (vs := [.agg (enc .u64 (z_b2_86.set ((3 : Int).toNat) z5_85))]) hE.base Try.func24 rfl rfl rfl (res_cons (ResV.cell (j := 0) ty_a58 ty_s58 rfl rfl (enc_sz (len_set l_z_b2_86))) res_nil) rfl
theorem sha_times.val {a0 : List Int} {a1 : Int} {r : List Int} (l_a0 : a0.length = 3) (h : sha_times.f a0 a1 = some r) {M : Mem} (w : World) (hM : Ext M (heapOf w)) : Calls Try.prog 24 #[.agg (enc .u64 a0), .int .u64 a1] w fun e w' => e = .returned (.agg (enc .u64 r)) ∧ Below w.heap.size w w' :=
  calls_value (sha_times.ok l_a0 h w hM)

/-! ### escutcheon/sha.below: function 21 -/
noncomputable def B21 : Code := bodyOf Try.f21
def sha_below.L0 (a0 : Int) (a1 : Int) : Nat → Int → (List Int) → Option (List Int)
  | 0, _, _ => none
  | k + 1, x31_12, y_13 => if (decide (x31_12 < 2)) = true then (req (0 ≤ a0) (req (a0 < 18446744073709551616) (req (0 ≤ a1) (req (a1 < 18446744073709551616) (nm (mul64h a0 a1) fun t101 => nm (mul64l a0 a1) fun t104 => nm (add64 (y_13.getD ((1 : Int).toNat) 0) t104 0) fun t107 => nm (add64c (y_13.getD ((1 : Int).toNat) 0) t104 0) fun t110 => nm (IntKind.u64.wrap (((y_13.set ((1 : Int).toNat) t107).getD ((2 : Int).toNat) 0) + (IntKind.u64.wrap (t101 + t110)))) fun t113 => sha_below.L0 a0 a1 k (IntKind.i64.wrap (x31_12 + 1)) ((y_13.set ((1 : Int).toNat) t107).set ((2 : Int).toNat) t113)))))) else (some y_13)
set_option maxRecDepth 20000 in
theorem sha_below.L0_ok (a0 : Int) (a1 : Int) (a2 : Bool) (a3 : Int) (b11 : Nat) {R : Ending → World → Prop} {w0 : World} {M0 M I : Mem} {K : List Item} (hE : Env w0 M0 M I) :
    ∀ (k : Nat) (x31_12 : Int) (y_13 : List Int) (r0_ : List Int) (l_y_13 : y_13.length = 3) (h : sha_below.L0 a0 a1 k x31_12 y_13 = some r0_) (hk : r0_.length = 3 → TT Try.prog 21 R 137 w0 I K [(0, .int .u64 a0), (1, .int .u64 a1), (2, .bool a2), (3, .int .u64 a3), (11, ptr b11 0)] [(some b11, .cells (enc .u64 r0_) 56 (0, 0))]),
      TT Try.prog 21 R 137 w0 I (.code (sub [1, 1, 1, 0, 1, 0, 0] B21) :: .inLoop (sub [1, 1, 1, 0, 1, 0, 0] B21) :: .inBlock 0 :: K) [(0, .int .u64 a0), (1, .int .u64 a1), (2, .bool a2), (3, .int .u64 a3), (11, ptr b11 0), (31, .int .i64 x31_12)] [(some b11, .cells (enc .u64 y_13) 56 (0, 0))] := by
  intro k
  induction k with
  | zero => intro x31_12 y_13 r0_ l_y_13 h; simp [sha_below.L0] at h
  | succ k ih =>
    intro x31_12 y_13 r0_ l_y_13 h hk
    unfold sha_below.L0 at h
    refine TT.seq (x := sub [1, 1, 1, 0, 1, 0, 0, 0] B21) (y := sub [1, 1, 1, 0, 1, 0, 0, 1] B21) ?_
    refine TT.region (id := 4) (n := 1) (ops := (opsOf (sub [1, 1, 1, 0, 1, 0, 0, 0] B21))) [(.pure, none)] rfl ?_
    show DL _ _ _ _ _ _ _ _ _ _ [0] _ _
    refine DL.pu 32 (.bool (decide (x31_12 < 2))) rfl (p_lss rfl rfl rfl) ?_
    refine DL.nil ?_
    refine TT.seq (x := sub [1, 1, 1, 0, 1, 0, 0, 1, 0] B21) (y := sub [1, 1, 1, 0, 1, 0, 0, 1, 1] B21) ?_
    by_cases c91 : (decide (x31_12 < 2)) = true
    · have h92 := ite_true c91 h
      refine TT.cond_true (x := sub [1, 1, 1, 0, 1, 0, 0, 1, 0, 0] B21) (y := sub [1, 1, 1, 0, 1, 0, 0, 1, 0, 1] B21) rfl c91 ?_
      refine TT.skip ?_
      refine TT.seq (x := sub [1, 1, 1, 0, 1, 0, 0, 1, 1, 0] B21) (y := sub [1, 1, 1, 0, 1, 0, 0, 1, 1, 1] B21) ?_
      refine TT.block (c := sub [1, 1, 1, 0, 1, 0, 0, 1, 1, 0, 0] B21) ?_
      refine TT.seq (x := sub [1, 1, 1, 0, 1, 0, 0, 1, 1, 0, 0, 0] B21) (y := sub [1, 1, 1, 0, 1, 0, 0, 1, 1, 0, 0, 1] B21) ?_
      refine TT.region (id := 5) (n := 8) (ops := (opsOf (sub [1, 1, 1, 0, 1, 0, 0, 1, 1, 0, 0, 0] B21))) [(.pure, none), (.pure, none), (.quiet, none), (.pure, none), (.pure, none), (.pure, none), (.pure, none), (.pure, none)] rfl ?_
      show DL _ _ _ _ _ _ _ _ _ _ [0, 1, 2, 3, 4, 5, 6, 7] _ _
      refine DL.pu 34 (.int .u64 a0) rfl (p_move rfl rfl) ?_
      refine DL.pu 35 (.int .u64 a1) rfl (p_move rfl rfl) ?_
      obtain ⟨g93, h94⟩ := req_some h92
      obtain ⟨g95, h96⟩ := req_some h94
      obtain ⟨g97, h98⟩ := req_some h96
      obtain ⟨g99, h100⟩ := req_some h98
      obtain ⟨t101, e102, h103⟩ := nm_some h100
      obtain ⟨t104, e105, h106⟩ := nm_some h103
      refine DL.qu 36 (.tuple #[.int .u64 t101, .int .u64 t104]) rfl (by rw [e102, e105]; exact f_mul64 g93 g95 g97 g99 Try.bits_Mul64 rfl rfl (args_val (vs := [.int .u64 a0, .int .u64 a1]) rfl) (fun w => enter12 _ w)) ?_
      refine DL.pu 33 (.tuple #[.int .u64 t101, .int .u64 t104]) rfl (p_move rfl rfl) ?_
      refine DL.pu 37 (.int .u64 t101) rfl (p_extract rfl rfl rfl) ?_
      refine DL.pu 38 (.int .u64 t104) rfl (p_extract rfl rfl rfl) ?_
      refine DL.pu 12 (.int .u64 t101) rfl (p_assign rfl rfl) ?_
      refine DL.pu 13 (.int .u64 t104) rfl (p_assign rfl rfl) ?_
      refine DL.nil ?_
      refine TT.seq (x := sub [1, 1, 1, 0, 1, 0, 0, 1, 1, 0, 0, 1, 0] B21) (y := sub [1, 1, 1, 0, 1, 0, 0, 1, 1, 0, 0, 1, 1] B21) ?_
      refine TT.region (id := 6) (n := 1) (ops := (opsOf (sub [1, 1, 1, 0, 1, 0, 0, 1, 1, 0, 0, 1, 0] B21))) [(.pure, none)] rfl ?_
      show DL _ _ _ _ _ _ _ _ _ _ [0] _ _
      refine DL.pu 14 (.int .u64 0) rfl (p_assign rfl rfl) ?_
      refine DL.nil ?_
      refine TT.seq (x := sub [1, 1, 1, 0, 1, 0, 0, 1, 1, 0, 0, 1, 1, 0] B21) (y := sub [1, 1, 1, 0, 1, 0, 0, 1, 1, 0, 0, 1, 1, 1] B21) ?_
      refine TT.region (id := 7) (n := 10) (ops := (opsOf (sub [1, 1, 1, 0, 1, 0, 0, 1, 1, 0, 0, 1, 1, 0] B21))) [(.pure, none), (.quiet, none), (.pure, none), (.quiet, none), (.pure, none), (.pure, none), (.pure, none), (.pure, none), (.store, none), (.pure, none)] rfl ?_
      show DL _ _ _ _ _ _ _ _ _ _ [0, 1, 2, 3, 4, 5, 6, 7, 8, 9] _ _
      refine DL.pu 40 (ptr b11 ((1 : Int).toNat)) rfl (p_ix ty_u56 ty_s35 (by decide) (by decide) rfl rfl rfl) ?_
      refine DL.qu 41 (.int .u64 (y_13.getD ((1 : Int).toNat) 0)) rfl (f_load (j := 0) ty_a35 rfl (enc_at l_y_13 (by decide) (by decide)) rfl rfl) ?_
      refine DL.pu 42 (.int .u64 t104) rfl (p_move rfl rfl) ?_
      obtain ⟨t107, e108, h109⟩ := nm_some h106
      obtain ⟨t110, e111, h112⟩ := nm_some h109
      refine DL.qu 43 (.tuple #[.int .u64 t107, .int .u64 t110]) rfl (by rw [e108, e111]; exact f_extern rfl rfl (args_val (vs := [.int .u64 (y_13.getD ((1 : Int).toNat) 0), .int .u64 t104, .int .u64 0]) rfl) (fun w => x23 _ _ _ (by decide) w)) ?_
      refine DL.pu 39 (.tuple #[.int .u64 t107, .int .u64 t110]) rfl (p_move rfl rfl) ?_
      refine DL.pu 44 (.int .u64 t107) rfl (p_extract rfl rfl rfl) ?_
      refine DL.pu 45 (.int .u64 t110) rfl (p_extract rfl rfl rfl) ?_
      refine DL.pu 46 (ptr b11 ((1 : Int).toNat)) rfl (p_ix ty_u56 ty_s35 (by decide) (by decide) rfl rfl rfl) ?_
      refine DL.put (H' := [(some b11, .cells (enc .u64 (y_13.set ((1 : Int).toNat) t107)) 56 (0, 0))]) (i := 8) rfl (Wn.none rfl) rfl rfl (f_storeE (j := 0) ty_s35 rfl (lt_nat l_y_13 (by decide) (by decide)) rfl rfl rfl) (keep_none rfl) ?_
      refine DL.pu 14 (.int .u64 t110) rfl (p_assign rfl rfl) ?_
      refine DL.nil ?_
      refine TT.region (id := 8) (n := 8) (ops := (opsOf (sub [1, 1, 1, 0, 1, 0, 0, 1, 1, 0, 0, 1, 1, 1] B21))) [(.pure, none), (.quiet, none), (.pure, none), (.pure, none), (.pure, none), (.pure, none), (.pure, none), (.store, none)] rfl ?_
      show DL _ _ _ _ _ _ _ _ _ _ [0, 1, 2, 3, 4, 5, 6, 7] _ _
      refine DL.pu 47 (ptr b11 ((2 : Int).toNat)) rfl (p_ix ty_u56 ty_s35 (by decide) (by decide) rfl rfl rfl) ?_
      refine DL.qu 48 (.int .u64 ((y_13.set ((1 : Int).toNat) t107).getD ((2 : Int).toNat) 0)) rfl (f_load (j := 0) ty_a35 rfl (enc_at (len_set l_y_13) (by decide) (by decide)) rfl rfl) ?_
      refine DL.pu 49 (.int .u64 t101) rfl (p_move rfl rfl) ?_
      refine DL.pu 50 (.int .u64 t110) rfl (p_move rfl rfl) ?_
      refine DL.pu 51 (.int .u64 (IntKind.u64.wrap (t101 + t110))) rfl (p_add rfl rfl rfl) ?_
      obtain ⟨t113, e114, h115⟩ := nm_some h112
      refine DL.pu 52 (.int .u64 t113) rfl (by rw [e114]; exact p_add rfl rfl rfl) ?_
      refine DL.pu 53 (ptr b11 ((2 : Int).toNat)) rfl (p_ix ty_u56 ty_s35 (by decide) (by decide) rfl rfl rfl) ?_
      refine DL.put (H' := [(some b11, .cells (enc .u64 ((y_13.set ((1 : Int).toNat) t107).set ((2 : Int).toNat) t113)) 56 (0, 0))]) (i := 7) rfl (Wn.none rfl) rfl rfl (f_storeE (j := 0) ty_s35 rfl (lt_nat (len_set l_y_13) (by decide) (by decide)) rfl rfl rfl) (keep_none rfl) ?_
      refine DL.nil ?_
      refine TT.inBlock ?_
      refine TT.region (id := 9) (n := 2) (ops := (opsOf (sub [1, 1, 1, 0, 1, 0, 0, 1, 1, 1] B21))) [(.pure, none), (.pure, none)] rfl ?_
      show DL _ _ _ _ _ _ _ _ _ _ [0, 1] _ _
      refine DL.pu 54 (.int .i64 (IntKind.i64.wrap (x31_12 + 1))) rfl (p_add rfl rfl rfl) ?_
      refine DL.pu 31 (.int .i64 (IntKind.i64.wrap (x31_12 + 1))) rfl (p_move rfl rfl) ?_
      refine DL.nil ?_
      refine TT.inLoop ?_
      exact TT.weak (ih (IntKind.i64.wrap (x31_12 + 1)) ((y_13.set ((1 : Int).toNat) t107).set ((2 : Int).toNat) t113) r0_ (len_set (len_set l_y_13)) h115 hk) (Sub.cons rfl (Sub.cons rfl (Sub.cons rfl (Sub.cons rfl (Sub.cons rfl (Sub.cons rfl (Sub.nil _)))))))
    · replace c91 := Bool.eq_false_iff.mpr c91
      have h116 := ite_false c91 h
      refine TT.cond_false (x := sub [1, 1, 1, 0, 1, 0, 0, 1, 0, 0] B21) (y := sub [1, 1, 1, 0, 1, 0, 0, 1, 0, 1] B21) rfl c91 ?_
      refine TT.exit rfl ?_
      obtain rfl := Option.some.inj h116
      exact TT.weak (hk l_y_13) (Sub.cons rfl (Sub.cons rfl (Sub.cons rfl (Sub.cons rfl (Sub.cons rfl (Sub.nil _))))))

def sha_below.f (a0 : Int) (a1 : Int) (a2 : Bool) (a3 : Int) : Option (Bool) := req (0 ≤ a1) (req (a1 < 18446744073709551616) (nm (mul64h a1 a1) fun t5 => nm (mul64l a1 a1) fun t8 => (sha_below.L0 a0 a1 3 0 [t8, t5, 0]).bind fun z_b11_90 => nm (IntKind.u64.wrap ((z_b11_90.getD ((2 : Int).toNat) 0) + (IntKind.u64.wrap (a0 * a0)))) fun t120 => if (!a2) = true then (nm (decide (((z_b11_90.set ((2 : Int).toNat) t120).getD ((2 : Int).toNat) 0) < a3)) fun t125 => (if t125 = true then (some true) else (nm (((z_b11_90.set ((2 : Int).toNat) t120).getD ((2 : Int).toNat) 0) == a3) fun t136 => (if t136 = true then (nm (((z_b11_90.set ((2 : Int).toNat) t120).getD ((1 : Int).toNat) 0) == 0) fun t146 => some t146) else (some false)).bind fun q140 => (if q140 = true then (nm (((z_b11_90.set ((2 : Int).toNat) t120).getD ((0 : Int).toNat) 0) == 0) fun t157 => some t157) else (some false)).bind fun q151 => some q151)).bind fun q129 => some q129) else ((sha_times.f (z_b11_90.set ((2 : Int).toNat) t120) a1).bind fun t163 => req (t163.length = 4) ((sha_times.f (z_b11_90.set ((2 : Int).toNat) t120) a0).bind fun t168 => req (t168.length = 4) (nm (add64 (t163.getD ((1 : Int).toNat) 0) (t168.getD ((0 : Int).toNat) 0) 0) fun t175 => nm (add64c (t163.getD ((1 : Int).toNat) 0) (t168.getD ((0 : Int).toNat) 0) 0) fun t178 => req (t178 ≤ 1) (nm (add64 (t163.getD ((2 : Int).toNat) 0) (t168.getD ((1 : Int).toNat) 0) t178) fun t183 => nm (add64c (t163.getD ((2 : Int).toNat) 0) (t168.getD ((1 : Int).toNat) 0) t178) fun t186 => req (t186 ≤ 1) (nm (add64 (t163.getD ((3 : Int).toNat) 0) (t168.getD ((2 : Int).toNat) 0) t186) fun t191 => nm (add64c (t163.getD ((3 : Int).toNat) 0) (t168.getD ((2 : Int).toNat) 0) t186) fun t194 => (if (decide (t191 < a3)) = true then (some true) else ((if (t191 == a3) = true then (some (t183 == 0)) else (some false)).bind fun q206 => (if q206 = true then (some (t175 == 0)) else (some false)).bind fun q214 => (if q214 = true then (some ((t163.getD ((0 : Int).toNat) 0) == 0)) else (some false)).bind fun q222 => some q222)).bind fun q198 => some q198)))))))
set_option maxHeartbeats 1000000 in
set_option maxRecDepth 20000 in
theorem sha_below.ok {a0 : Int} {a1 : Int} {a2 : Bool} {a3 : Int} {r : Bool} (h : sha_below.f a0 a1 a2 a3 = some r) {M : Mem} (w : World) (hM : Ext M (heapOf w)) : Calls Try.prog 21 #[.int .u64 a0, .int .u64 a1, .bool a2, .int .u64 a3] w (Post (fun u => u = .bool r) w) := by
  unfold sha_below.f at h
  have hE := Env.start hM
  refine calls_of_TT (N := 137) (S := [(0, .int .u64 a0), (1, .int .u64 a1), (2, .bool a2), (3, .int .u64 a3)]) (c := B21) Try.func21 rfl rfl rfl (by simp) ?_
  show TT _ _ _ _ _ _ [.code (sub [] B21)] _ _
  refine TT.seq (x := sub [0] B21) (y := sub [1] B21) ?_
  refine TT.region (id := 0) (n := 1) (ops := (opsOf (sub [0] B21))) [(.pure, none)] rfl ?_
  show DL _ _ _ _ _ _ _ _ _ _ [0] _ _
  refine DL.pu 8 (.bool false) rfl (p_assign rfl rfl) ?_
  refine DL.nil ?_
  refine TT.seq (x := sub [1, 0] B21) (y := sub [1, 1] B21) ?_
  refine TT.region (id := 1) (n := 8) (ops := (opsOf (sub [1, 0] B21))) [(.pure, none), (.pure, none), (.quiet, none), (.pure, none), (.pure, none), (.pure, none), (.pure, none), (.pure, none)] rfl ?_
  show DL _ _ _ _ _ _ _ _ _ _ [0, 1, 2, 3, 4, 5, 6, 7] _ _
  refine DL.pu 23 (.int .u64 a1) rfl (p_move rfl rfl) ?_
  refine DL.pu 24 (.int .u64 a1) rfl (p_move rfl rfl) ?_
  obtain ⟨g1, h2⟩ := req_some h
  obtain ⟨g3, h4⟩ := req_some h2
  obtain ⟨t5, e6, h7⟩ := nm_some h4
  obtain ⟨t8, e9, h10⟩ := nm_some h7
  refine DL.qu 25 (.tuple #[.int .u64 t5, .int .u64 t8]) rfl (by rw [e6, e9]; exact f_mul64 g1 g3 g1 g3 Try.bits_Mul64 rfl rfl (args_val (vs := [.int .u64 a1, .int .u64 a1]) rfl) (fun w => enter12 _ w)) ?_
  refine DL.pu 22 (.tuple #[.int .u64 t5, .int .u64 t8]) rfl (p_move rfl rfl) ?_
  refine DL.pu 26 (.int .u64 t5) rfl (p_extract rfl rfl rfl) ?_
  refine DL.pu 27 (.int .u64 t8) rfl (p_extract rfl rfl rfl) ?_
  refine DL.pu 9 (.int .u64 t5) rfl (p_assign rfl rfl) ?_
  refine DL.pu 10 (.int .u64 t8) rfl (p_assign rfl rfl) ?_
  refine DL.nil ?_
  refine TT.seq (x := sub [1, 1, 0] B21) (y := sub [1, 1, 1] B21) ?_
  refine TT.region (id := 2) (n := 5) (ops := (opsOf (sub [1, 1, 0] B21))) [(.pure, none), (.pure, none), (.pure, none), (.alloc, none), (.store, none)] rfl ?_
  show DL _ _ _ _ _ _ _ _ _ _ [0, 1, 2, 3, 4] _ _
  refine DL.pu 28 (.int .u64 t8) rfl (p_move rfl rfl) ?_
  refine DL.pu 29 (.int .u64 t5) rfl (p_move rfl rfl) ?_
  refine DL.pu 30 (.agg (enc .u64 [t8, t5, 0])) rfl (p_build (vs := [(0, .int .u64 t8), (1, .int .u64 t5), (2, .int .u64 0)]) (fun w => by kernel_rfl) rfl rfl) ?_
  refine DL.new (ob := .cells (enc .u64 (List.replicate 3 0)) 56) (mk := fun b => ptr b 0) (i := 3) rfl (Wn.none rfl) rfl rfl rfl (f_alloc ty_z56 rfl) ?_
  intro b11 hb11
  refine DL.put (H' := [(some b11, .cells (enc .u64 [t8, t5, 0]) 56 (0, 0))]) (i := 4) rfl (Wn.none rfl) rfl rfl (f_storeA (j := 0) ty_s56 rfl (enc_sz rfl) (enc_sz (List.length_replicate)) (enc_oneCell _ _) rfl rfl rfl) (keep_none rfl) ?_
  refine DL.nil ?_
  refine TT.seq (x := sub [1, 1, 1, 0] B21) (y := sub [1, 1, 1, 1] B21) ?_
  refine TT.seq (x := sub [1, 1, 1, 0, 0] B21) (y := sub [1, 1, 1, 0, 1] B21) ?_
  refine TT.region (id := 3) (n := 1) (ops := (opsOf (sub [1, 1, 1, 0, 0] B21))) [(.pure, none)] rfl ?_
  show DL _ _ _ _ _ _ _ _ _ _ [0] _ _
  refine DL.pu 31 (.int .i64 0) rfl (p_move rfl rfl) ?_
  refine DL.nil ?_
  refine TT.block (c := sub [1, 1, 1, 0, 1, 0] B21) ?_
  refine TT.loop (c := sub [1, 1, 1, 0, 1, 0, 0] B21) ?_
  obtain ⟨z_b11_90, h117, h118⟩ := bind_some h10
  refine TT.weak (sha_below.L0_ok a0 a1 a2 a3 b11 hE 3 0 [t8, t5, 0] z_b11_90 rfl h117 (fun l_z_b11_90 => ?_)) (Sub.cons rfl (Sub.cons rfl (Sub.cons rfl (Sub.cons rfl (Sub.cons rfl (Sub.cons rfl (Sub.nil _)))))))
  refine TT.seq (x := sub [1, 1, 1, 1, 0] B21) (y := sub [1, 1, 1, 1, 1] B21) ?_
  refine TT.region (id := 10) (n := 8) (ops := (opsOf (sub [1, 1, 1, 1, 0] B21))) [(.pure, none), (.quiet, none), (.pure, none), (.pure, none), (.pure, none), (.pure, none), (.pure, none), (.store, none)] rfl ?_
  show DL _ _ _ _ _ _ _ _ _ _ [0, 1, 2, 3, 4, 5, 6, 7] _ _
  refine DL.pu 55 (ptr b11 ((2 : Int).toNat)) rfl (p_ix ty_u56 ty_s35 (by decide) (by decide) rfl rfl rfl) ?_
  refine DL.qu 56 (.int .u64 (z_b11_90.getD ((2 : Int).toNat) 0)) rfl (f_load (j := 0) ty_a35 rfl (enc_at l_z_b11_90 (by decide) (by decide)) rfl rfl) ?_
  refine DL.pu 57 (.int .u64 a0) rfl (p_move rfl rfl) ?_
  refine DL.pu 58 (.int .u64 a0) rfl (p_move rfl rfl) ?_
  refine DL.pu 59 (.int .u64 (IntKind.u64.wrap (a0 * a0))) rfl (p_mul rfl rfl rfl) ?_
  obtain ⟨t120, e121, h122⟩ := nm_some h118
  refine DL.pu 60 (.int .u64 t120) rfl (by rw [e121]; exact p_add rfl rfl rfl) ?_
  refine DL.pu 61 (ptr b11 ((2 : Int).toNat)) rfl (p_ix ty_u56 ty_s35 (by decide) (by decide) rfl rfl rfl) ?_
  refine DL.put (H' := [(some b11, .cells (enc .u64 (z_b11_90.set ((2 : Int).toNat) t120)) 56 (0, 0))]) (i := 7) rfl (Wn.none rfl) rfl rfl (f_storeE (j := 0) ty_s35 rfl (lt_nat l_z_b11_90 (by decide) (by decide)) rfl rfl rfl) (keep_none rfl) ?_
  refine DL.nil ?_
  refine TT.seq (x := sub [1, 1, 1, 1, 1, 0] B21) (y := sub [1, 1, 1, 1, 1, 1] B21) ?_
  refine TT.seq (x := sub [1, 1, 1, 1, 1, 0, 0] B21) (y := sub [1, 1, 1, 1, 1, 0, 1] B21) ?_
  refine TT.region (id := 11) (n := 2) (ops := (opsOf (sub [1, 1, 1, 1, 1, 0, 0] B21))) [(.pure, none), (.pure, none)] rfl ?_
  show DL _ _ _ _ _ _ _ _ _ _ [0, 1] _ _
  refine DL.pu 62 (.bool a2) rfl (p_move rfl rfl) ?_
  refine DL.pu 63 (.bool (!a2)) rfl (p_not rfl rfl) ?_
  refine DL.nil ?_
  by_cases c123 : (!a2) = true
  · have h124 := ite_true c123 h122
    refine TT.cond_true (x := sub [1, 1, 1, 1, 1, 0, 1, 0] B21) (y := sub [1, 1, 1, 1, 1, 0, 1, 1] B21) rfl c123 ?_
    refine TT.seq (x := sub [1, 1, 1, 1, 1, 0, 1, 0, 0] B21) (y := sub [1, 1, 1, 1, 1, 0, 1, 0, 1] B21) ?_
    refine TT.region (id := 12) (n := 21) (ops := (opsOf (sub [1, 1, 1, 1, 1, 0, 1, 0, 0] B21))) [(.pure, none), (.quiet, none), (.pure, none), (.pure, none), (.pure, none), (.pure, none), (.quiet, none), (.pure, none), (.pure, none), (.pure, none), (.pure, none), (.quiet, none), (.pure, none), (.pure, none), (.pure, none), (.pure, none), (.quiet, none), (.pure, none), (.pure, none), (.pure, none), (.pure, none)] rfl ?_
    show DL _ _ _ _ _ _ _ _ _ _ [0, 1, 2, 3, 4, 5, 6, 7, 8, 9, 10, 11, 12, 13, 14, 15, 16, 17, 18, 19, 20] _ _
    refine DL.pu 64 (ptr b11 ((2 : Int).toNat)) rfl (p_ix ty_u56 ty_s35 (by decide) (by decide) rfl rfl rfl) ?_
    refine DL.qu 65 (.int .u64 ((z_b11_90.set ((2 : Int).toNat) t120).getD ((2 : Int).toNat) 0)) rfl (f_load (j := 0) ty_a35 rfl (enc_at (len_set l_z_b11_90) (by decide) (by decide)) rfl rfl) ?_
    refine DL.pu 66 (.int .u64 a3) rfl (p_move rfl rfl) ?_
    obtain ⟨t125, e126, h127⟩ := nm_some h124
    refine DL.pu 67 (.bool t125) rfl (by rw [e126]; exact p_lss rfl rfl rfl) ?_
    refine DL.pu 68 (.bool t125) rfl (p_move rfl rfl) ?_
    obtain ⟨q129, h130, h131⟩ := bind_some h127
    refine DL.cut [(83, .bool q129)] [20] ?_ (fun J132 => ?_)
    · refine DL.pu 8 (.bool q129) rfl (p_assign rfl rfl) ?_
      refine DL.nil ?_
      obtain rfl := Option.some.inj h131
      exact retnE (rs := [.tmp 8]) (vs := [.bool q129]) hE.base Try.func21 rfl rfl rfl (res_cons (ResV.tmp rfl) res_nil) rfl
    · by_cases c133 : t125 = true
      · have h134 := ite_true c133 h130
        refine DL.not (i := 5) rfl (Wn.yes c133 rfl rfl rfl rfl) rfl rfl ?_
        refine DL.not (i := 6) rfl (Wn.yes c133 rfl rfl rfl rfl) rfl rfl ?_
        refine DL.not (i := 7) rfl (Wn.yes c133 rfl rfl rfl rfl) rfl rfl ?_
        refine DL.not (i := 8) rfl (Wn.yes c133 rfl rfl rfl rfl) rfl rfl ?_
        refine DL.not (i := 9) rfl (Wn.yes c133 rfl rfl rfl rfl) rfl rfl ?_
        refine DL.not (i := 10) rfl (Wn.undef rfl rfl rfl) rfl rfl ?_
        refine DL.not (i := 11) rfl (Wn.undef rfl rfl rfl) rfl rfl ?_
        refine DL.not (i := 12) rfl (Wn.undef rfl rfl rfl) rfl rfl ?_
        refine DL.not (i := 13) rfl (Wn.yes c133 rfl rfl rfl rfl) rfl rfl ?_
        refine DL.not (i := 14) rfl (Wn.yes c133 rfl rfl rfl rfl) rfl rfl ?_
        refine DL.not (i := 15) rfl (Wn.undef rfl rfl rfl) rfl rfl ?_
        refine DL.not (i := 16) rfl (Wn.undef rfl rfl rfl) rfl rfl ?_
        refine DL.not (i := 17) rfl (Wn.undef rfl rfl rfl) rfl rfl ?_
        refine DL.not (i := 18) rfl (Wn.yes c133 rfl rfl rfl rfl) rfl rfl ?_
        refine DL.pu 83 (.bool true) rfl (p_pick_t c133 rfl rfl rfl) ?_
        obtain rfl := Option.some.inj h134
        exact DL.weak J132 (Sub.cons rfl (Sub.nil _))
      · replace c133 := Bool.eq_false_iff.mpr c133
        have h135 := ite_false c133 h130
        refine DL.pure (v := ptr b11 ((2 : Int).toNat)) rfl (Wn.no c133 rfl rfl rfl rfl) rfl rfl rfl (p_ix ty_u56 ty_s35 (by decide) (by decide) rfl rfl rfl) ?_
        refine DL.quiet (v := .int .u64 ((z_b11_90.set ((2 : Int).toNat) t120).getD ((2 : Int).toNat) 0)) rfl (Wn.no c133 rfl rfl rfl rfl) rfl rfl rfl (f_load (j := 0) ty_a35 rfl (enc_at (len_set l_z_b11_90) (by decide) (by decide)) rfl rfl) ?_
        refine DL.pure (v := .int .u64 a3) rfl (Wn.no c133 rfl rfl rfl rfl) rfl rfl rfl (p_move rfl rfl) ?_
        obtain ⟨t136, e137, h138⟩ := nm_some h135
        refine DL.pure (v := .bool t136) rfl (Wn.no c133 rfl rfl rfl rfl) rfl rfl rfl (by rw [e137]; exact p_eql rfl rfl rfl) ?_
        refine DL.pure (v := .bool t136) rfl (Wn.no c133 rfl rfl rfl rfl) rfl rfl rfl (p_move rfl rfl) ?_
        obtain ⟨q140, h141, h142⟩ := bind_some h138
        refine DL.cut [(11, ptr b11 0), (68, .bool t125), (77, .bool q140)] [14, 15, 16, 17, 18, 19, 20] ?_ (fun J143 => ?_)
        · refine DL.pure (v := .bool q140) rfl (Wn.no c133 rfl rfl rfl rfl) rfl rfl rfl (p_move rfl rfl) ?_
          obtain ⟨q151, h152, h153⟩ := bind_some h142
          refine DL.cut [(68, .bool t125), (82, .bool q151)] [19, 20] ?_ (fun J154 => ?_)
          · refine DL.pu 83 (.bool q151) rfl (p_pick_f c133 rfl rfl rfl) ?_
            obtain rfl := Option.some.inj h153
            exact DL.weak J132 (Sub.cons rfl (Sub.nil _))
          · by_cases c155 : q140 = true
            · have h156 := ite_true c155 h152
              refine DL.pure (v := ptr b11 ((0 : Int).toNat)) rfl (Wn.yes c155 rfl rfl rfl rfl) rfl rfl rfl (p_ix ty_u56 ty_s35 (by decide) (by decide) rfl rfl rfl) ?_
              refine DL.quiet (v := .int .u64 ((z_b11_90.set ((2 : Int).toNat) t120).getD ((0 : Int).toNat) 0)) rfl (Wn.yes c155 rfl rfl rfl rfl) rfl rfl rfl (f_load (j := 0) ty_a35 rfl (enc_at (len_set l_z_b11_90) (by decide) (by decide)) rfl rfl) ?_
              obtain ⟨t157, e158, h159⟩ := nm_some h156
              refine DL.pure (v := .bool t157) rfl (Wn.yes c155 rfl rfl rfl rfl) rfl rfl rfl (by rw [e158]; exact p_eql rfl rfl rfl) ?_
              refine DL.pure (v := .bool t157) rfl (Wn.no c133 rfl rfl rfl rfl) rfl rfl rfl (p_pick_t c155 rfl rfl rfl) ?_
              obtain rfl := Option.some.inj h159
              exact DL.weak J154 (Sub.cons rfl (Sub.cons rfl (Sub.nil _)))
            · replace c155 := Bool.eq_false_iff.mpr c155
              have h160 := ite_false c155 h152
              refine DL.not (i := 15) rfl (Wn.no c155 rfl rfl rfl rfl) rfl rfl ?_
              refine DL.not (i := 16) rfl (Wn.no c155 rfl rfl rfl rfl) rfl rfl ?_
              refine DL.not (i := 17) rfl (Wn.no c155 rfl rfl rfl rfl) rfl rfl ?_
              refine DL.pure (v := .bool false) rfl (Wn.no c133 rfl rfl rfl rfl) rfl rfl rfl (p_pick_f c155 rfl rfl rfl) ?_
              obtain rfl := Option.some.inj h160
              exact DL.weak J154 (Sub.cons rfl (Sub.cons rfl (Sub.nil _)))
        · by_cases c144 : t136 = true
          · have h145 := ite_true c144 h141
            refine DL.pure (v := ptr b11 ((1 : Int).toNat)) rfl (Wn.yes c144 rfl rfl rfl rfl) rfl rfl rfl (p_ix ty_u56 ty_s35 (by decide) (by decide) rfl rfl rfl) ?_
            refine DL.quiet (v := .int .u64 ((z_b11_90.set ((2 : Int).toNat) t120).getD ((1 : Int).toNat) 0)) rfl (Wn.yes c144 rfl rfl rfl rfl) rfl rfl rfl (f_load (j := 0) ty_a35 rfl (enc_at (len_set l_z_b11_90) (by decide) (by decide)) rfl rfl) ?_
            obtain ⟨t146, e147, h148⟩ := nm_some h145
            refine DL.pure (v := .bool t146) rfl (Wn.yes c144 rfl rfl rfl rfl) rfl rfl rfl (by rw [e147]; exact p_eql rfl rfl rfl) ?_
            refine DL.pure (v := .bool t146) rfl (Wn.no c133 rfl rfl rfl rfl) rfl rfl rfl (p_pick_t c144 rfl rfl rfl) ?_
            obtain rfl := Option.some.inj h148
            exact DL.weak J143 (Sub.cons rfl (Sub.cons rfl (Sub.cons rfl (Sub.nil _))))
          · replace c144 := Bool.eq_false_iff.mpr c144
            have h149 := ite_false c144 h141
            refine DL.not (i := 10) rfl (Wn.no c144 rfl rfl rfl rfl) rfl rfl ?_
            refine DL.not (i := 11) rfl (Wn.no c144 rfl rfl rfl rfl) rfl rfl ?_
            refine DL.not (i := 12) rfl (Wn.no c144 rfl rfl rfl rfl) rfl rfl ?_
            refine DL.pure (v := .bool false) rfl (Wn.no c133 rfl rfl rfl rfl) rfl rfl rfl (p_pick_f c144 rfl rfl rfl) ?_
            obtain rfl := Option.some.inj h149
            exact DL.weak J143 (Sub.cons rfl (Sub.cons rfl (Sub.cons rfl (Sub.nil _))))
  · replace c123 := Bool.eq_false_iff.mpr c123
    have h161 := ite_false c123 h122
    refine TT.cond_false (x := sub [1, 1, 1, 1, 1, 0, 1, 0] B21) (y := sub [1, 1, 1, 1, 1, 0, 1, 1] B21) rfl c123 ?_
    refine TT.skip ?_
    refine TT.seq (x := sub [1, 1, 1, 1, 1, 1, 0] B21) (y := sub [1, 1, 1, 1, 1, 1, 1] B21) ?_
    refine TT.regionD (id := 13) (ops := (opsOf (sub [1, 1, 1, 1, 1, 1, 0] B21))) [0, 1, 2, 3, 4, 5, 6, 7, 8, 9] [0, 0, 3, 0, 0, 31, 0, 0, 255, 511] [(.look, some 0), (.pure, none), (.quiet, none), (.look, some 0), (.pure, none), (.quiet, none), (.alloc, none), (.alloc, none), (.store, some 106), (.store, some 107)] mixed (by kernel_rfl) ?_
    intro w162 hl162 hj162 hz162
    refine DL.look (v := .agg (enc .u64 (z_b11_90.set ((2 : Int).toNat) t120))) (x := 0) (b := b11) (i := 0) rfl (Wn.none rfl) rfl rfl rfl rfl rfl (List.mem_of_getElem? (i := 0) rfl) (b_loadA ty_a56 ty_s56 (enc_sz (len_set l_z_b11_90)) rfl rfl) ?_
    refine DL.pu 85 (.int .u64 a1) rfl (p_move rfl rfl) ?_
    obtain ⟨t163, h164, h165⟩ := bind_some h161
    obtain ⟨g166, h167⟩ := req_some h165
    have l_t163 : t163.length = 4 := g166
    refine DL.qu 86 (.agg (enc .u64 t163)) rfl (f_callR rfl rfl (args_val (vs := [.agg (enc .u64 (z_b11_90.set ((2 : Int).toNat) t120)), .int .u64 a1]) rfl) (fun w => enter24 _ w) (fun w hc => sha_times.val (len_set l_z_b11_90) h164 (M := M) w (hE.ext hc) )) ?_
    refine DL.look (v := .agg (enc .u64 (z_b11_90.set ((2 : Int).toNat) t120))) (x := 0) (b := b11) (i := 3) rfl (Wn.none rfl) rfl rfl rfl rfl rfl (List.mem_of_getElem? (i := 0) rfl) (b_loadA ty_a56 ty_s56 (enc_sz (len_set l_z_b11_90)) rfl rfl) ?_
    refine DL.pu 88 (.int .u64 a0) rfl (p_move rfl rfl) ?_
    obtain ⟨t168, h169, h170⟩ := bind_some h167
    obtain ⟨g171, h172⟩ := req_some h170
    have l_t168 : t168.length = 4 := g171
    refine DL.qu 89 (.agg (enc .u64 t168)) rfl (f_callR rfl rfl (args_val (vs := [.agg (enc .u64 (z_b11_90.set ((2 : Int).toNat) t120)), .int .u64 a0]) rfl) (fun w => enter24 _ w) (fun w hc => sha_times.val (len_set l_z_b11_90) h169 (M := M) w (hE.ext hc) )) ?_
    refine DL.new (ob := .cells (enc .u64 (List.replicate 4 0)) 58) (mk := fun b => ptr b 0) (i := 6) rfl (Wn.none rfl) rfl rfl rfl (f_alloc ty_z58 rfl) ?_
    intro b173 hb173
    refine DL.new (ob := .cells (enc .u64 (List.replicate 4 0)) 58) (mk := fun b => ptr b 0) (i := 7) rfl (Wn.none rfl) rfl rfl rfl (f_alloc ty_z58 rfl) ?_
    intro b174 hb174
    refine DL.put (H' := [(some b174, .cells (enc .u64 (List.replicate 4 0)) 58 (0, 0)), (some b173, .cells (enc .u64 t163) 58 (0, 0)), (some b11, .cells (enc .u64 (z_b11_90.set ((2 : Int).toNat) t120)) 56 (0, 0))]) (i := 8) rfl (Wn.none rfl) rfl rfl (f_storeA (j := 1) ty_s58 rfl (enc_sz l_t163) (enc_sz (List.length_replicate)) (enc_oneCell _ _) rfl rfl rfl) (keep_new (j := 1) hz162 hb173 rfl) ?_
    refine DL.put (H' := [(some b174, .cells (enc .u64 t168) 58 (0, 0)), (some b173, .cells (enc .u64 t163) 58 (0, 0)), (some b11, .cells (enc .u64 (z_b11_90.set ((2 : Int).toNat) t120)) 56 (0, 0))]) (i := 9) rfl (Wn.none rfl) rfl rfl (f_storeA (j := 0) ty_s58 rfl (enc_sz l_t168) (enc_sz (List.length_replicate)) (enc_oneCell _ _) rfl rfl rfl) (keep_new (j := 0) hz162 hb174 rfl) ?_
    refine DL.nil' hl162 ?_
    refine TT.seq (x := sub [1, 1, 1, 1, 1, 1, 1, 0] B21) (y := sub [1, 1, 1, 1, 1, 1, 1, 1] B21) ?_
    refine TT.region (id := 14) (n := 10) (ops := (opsOf (sub [1, 1, 1, 1, 1, 1, 1, 0] B21))) [(.pure, none), (.quiet, none), (.pure, none), (.quiet, none), (.quiet, none), (.pure, none), (.pure, none), (.pure, none), (.pure, none), (.pure, none)] rfl ?_
    show DL _ _ _ _ _ _ _ _ _ _ [0, 1, 2, 3, 4, 5, 6, 7, 8, 9] _ _
    refine DL.pu 91 (ptr b173 ((1 : Int).toNat)) rfl (p_ix ty_u58 ty_s35 (by decide) (by decide) rfl rfl rfl) ?_
    refine DL.qu 92 (.int .u64 (t163.getD ((1 : Int).toNat) 0)) rfl (f_load (j := 1) ty_a35 rfl (enc_at l_t163 (by decide) (by decide)) rfl rfl) ?_
    refine DL.pu 93 (ptr b174 ((0 : Int).toNat)) rfl (p_ix ty_u58 ty_s35 (by decide) (by decide) rfl rfl rfl) ?_
    refine DL.qu 94 (.int .u64 (t168.getD ((0 : Int).toNat) 0)) rfl (f_load (j := 0) ty_a35 rfl (enc_at l_t168 (by decide) (by decide)) rfl rfl) ?_
    obtain ⟨t175, e176, h177⟩ := nm_some h172
    obtain ⟨t178, e179, h180⟩ := nm_some h177
    refine DL.qu 95 (.tuple #[.int .u64 t175, .int .u64 t178]) rfl (by rw [e176, e179]; exact f_extern rfl rfl (args_val (vs := [.int .u64 (t163.getD ((1 : Int).toNat) 0), .int .u64 (t168.getD ((0 : Int).toNat) 0), .int .u64 0]) rfl) (fun w => x23 _ _ _ (by decide) w)) ?_
    refine DL.pu 90 (.tuple #[.int .u64 t175, .int .u64 t178]) rfl (p_move rfl rfl) ?_
    refine DL.pu 96 (.int .u64 t175) rfl (p_extract rfl rfl rfl) ?_
    refine DL.pu 97 (.int .u64 t178) rfl (p_extract rfl rfl rfl) ?_
    refine DL.pu 17 (.int .u64 t175) rfl (p_assign rfl rfl) ?_
    refine DL.pu 18 (.int .u64 t178) rfl (p_assign rfl rfl) ?_
    refine DL.nil ?_
    refine TT.seq (x := sub [1, 1, 1, 1, 1, 1, 1, 1, 0] B21) (y := sub [1, 1, 1, 1, 1, 1, 1, 1, 1] B21) ?_
    refine TT.region (id := 15) (n := 11) (ops := (opsOf (sub [1, 1, 1, 1, 1, 1, 1, 1, 0] B21))) [(.pure, none), (.quiet, none), (.pure, none), (.quiet, none), (.pure, none), (.quiet, none), (.pure, none), (.pure, none), (.pure, none), (.pure, none), (.pure, none)] rfl ?_
    show DL _ _ _ _ _ _ _ _ _ _ [0, 1, 2, 3, 4, 5, 6, 7, 8, 9, 10] _ _
    refine DL.pu 99 (ptr b173 ((2 : Int).toNat)) rfl (p_ix ty_u58 ty_s35 (by decide) (by decide) rfl rfl rfl) ?_
    refine DL.qu 100 (.int .u64 (t163.getD ((2 : Int).toNat) 0)) rfl (f_load (j := 1) ty_a35 rfl (enc_at l_t163 (by decide) (by decide)) rfl rfl) ?_
    refine DL.pu 101 (ptr b174 ((1 : Int).toNat)) rfl (p_ix ty_u58 ty_s35 (by decide) (by decide) rfl rfl rfl) ?_
    refine DL.qu 102 (.int .u64 (t168.getD ((1 : Int).toNat) 0)) rfl (f_load (j := 0) ty_a35 rfl (enc_at l_t168 (by decide) (by decide)) rfl rfl) ?_
    refine DL.pu 103 (.int .u64 t178) rfl (p_move rfl rfl) ?_
    obtain ⟨g181, h182⟩ := req_some h180
    obtain ⟨t183, e184, h185⟩ := nm_some h182
    obtain ⟨t186, e187, h188⟩ := nm_some h185
    refine DL.qu 104 (.tuple #[.int .u64 t183, .int .u64 t186]) rfl (by rw [e184, e187]; exact f_extern rfl rfl (args_val (vs := [.int .u64 (t163.getD ((2 : Int).toNat) 0), .int .u64 (t168.getD ((1 : Int).toNat) 0), .int .u64 t178]) rfl) (fun w => x23 _ _ _ g181 w)) ?_
    refine DL.pu 98 (.tuple #[.int .u64 t183, .int .u64 t186]) rfl (p_move rfl rfl) ?_
    refine DL.pu 105 (.int .u64 t183) rfl (p_extract rfl rfl rfl) ?_
    refine DL.pu 106 (.int .u64 t186) rfl (p_extract rfl rfl rfl) ?_
    refine DL.pu 19 (.int .u64 t183) rfl (p_assign rfl rfl) ?_
    refine DL.pu 18 (.int .u64 t186) rfl (p_assign rfl rfl) ?_
    refine DL.nil ?_
    refine TT.seq (x := sub [1, 1, 1, 1, 1, 1, 1, 1, 1, 0] B21) (y := sub [1, 1, 1, 1, 1, 1, 1, 1, 1, 1] B21) ?_
    refine TT.region (id := 16) (n := 11) (ops := (opsOf (sub [1, 1, 1, 1, 1, 1, 1, 1, 1, 0] B21))) [(.pure, none), (.quiet, none), (.pure, none), (.quiet, none), (.pure, none), (.quiet, none), (.pure, none), (.pure, none), (.pure, none), (.pure, none), (.pure, none)] rfl ?_
    show DL _ _ _ _ _ _ _ _ _ _ [0, 1, 2, 3, 4, 5, 6, 7, 8, 9, 10] _ _
    refine DL.pu 108 (ptr b173 ((3 : Int).toNat)) rfl (p_ix ty_u58 ty_s35 (by decide) (by decide) rfl rfl rfl) ?_
    refine DL.qu 109 (.int .u64 (t163.getD ((3 : Int).toNat) 0)) rfl (f_load (j := 1) ty_a35 rfl (enc_at l_t163 (by decide) (by decide)) rfl rfl) ?_
    refine DL.pu 110 (ptr b174 ((2 : Int).toNat)) rfl (p_ix ty_u58 ty_s35 (by decide) (by decide) rfl rfl rfl) ?_
    refine DL.qu 111 (.int .u64 (t168.getD ((2 : Int).toNat) 0)) rfl (f_load (j := 0) ty_a35 rfl (enc_at l_t168 (by decide) (by decide)) rfl rfl) ?_
    refine DL.pu 112 (.int .u64 t186) rfl (p_move rfl rfl) ?_
    obtain ⟨g189, h190⟩ := req_some h188
    obtain ⟨t191, e192, h193⟩ := nm_some h190
    obtain ⟨t194, e195, h196⟩ := nm_some h193
    refine DL.qu 113 (.tuple #[.int .u64 t191, .int .u64 t194]) rfl (by rw [e192, e195]; exact f_extern rfl rfl (args_val (vs := [.int .u64 (t163.getD ((3 : Int).toNat) 0), .int .u64 (t168.getD ((2 : Int).toNat) 0), .int .u64 t186]) rfl) (fun w => x23 _ _ _ g189 w)) ?_
    refine DL.pu 107 (.tuple #[.int .u64 t191, .int .u64 t194]) rfl (p_move rfl rfl) ?_
    refine DL.pu 114 (.int .u64 t191) rfl (p_extract rfl rfl rfl) ?_
    refine DL.pu 115 (.int .u64 t194) rfl (p_extract rfl rfl rfl) ?_
    refine DL.pu 20 (.int .u64 t191) rfl (p_assign rfl rfl) ?_
    refine DL.pu 21 (.int .u64 t194) rfl (p_assign rfl rfl) ?_
    refine DL.nil ?_
    refine TT.seq (x := sub [1, 1, 1, 1, 1, 1, 1, 1, 1, 1, 0] B21) (y := sub [1, 1, 1, 1, 1, 1, 1, 1, 1, 1, 1] B21) ?_
    refine TT.region (id := 17) (n := 22) (ops := (opsOf (sub [1, 1, 1, 1, 1, 1, 1, 1, 1, 1, 0] B21))) [(.pure, none), (.pure, none), (.pure, none), (.pure, none), (.pure, none), (.pure, none), (.pure, none), (.pure, none), (.pure, none), (.pure, none), (.pure, none), (.pure, none), (.pure, none), (.pure, none), (.pure, none), (.pure, none), (.pure, none), (.quiet, none), (.pure, none), (.pure, none), (.pure, none), (.pure, none)] rfl ?_
    show DL _ _ _ _ _ _ _ _ _ _ [0, 1, 2, 3, 4, 5, 6, 7, 8, 9, 10, 11, 12, 13, 14, 15, 16, 17, 18, 19, 20, 21] _ _
    refine DL.pu 116 (.int .u64 t191) rfl (p_move rfl rfl) ?_
    refine DL.pu 117 (.int .u64 a3) rfl (p_move rfl rfl) ?_
    refine DL.pu 118 (.bool (decide (t191 < a3))) rfl (p_lss rfl rfl rfl) ?_
    refine DL.pu 119 (.bool (decide (t191 < a3))) rfl (p_move rfl rfl) ?_
    obtain ⟨q198, h199, h200⟩ := bind_some h196
    refine DL.cut [(136, .bool q198)] [21] ?_ (fun J201 => ?_)
    · refine DL.pu 8 (.bool q198) rfl (p_assign rfl rfl) ?_
      refine DL.nil ?_
      obtain rfl := Option.some.inj h200
      exact retnE (rs := [.tmp 8]) (vs := [.bool q198]) hE.base Try.func21 rfl rfl rfl (res_cons (ResV.tmp rfl) res_nil) rfl
    · by_cases c202 : (decide (t191 < a3)) = true
      · have h203 := ite_true c202 h199
        refine DL.not (i := 4) rfl (Wn.yes c202 rfl rfl rfl rfl) rfl rfl ?_
        refine DL.not (i := 5) rfl (Wn.yes c202 rfl rfl rfl rfl) rfl rfl ?_
        refine DL.not (i := 6) rfl (Wn.yes c202 rfl rfl rfl rfl) rfl rfl ?_
        refine DL.not (i := 7) rfl (Wn.yes c202 rfl rfl rfl rfl) rfl rfl ?_
        refine DL.not (i := 8) rfl (Wn.undef rfl rfl rfl) rfl rfl ?_
        refine DL.not (i := 9) rfl (Wn.undef rfl rfl rfl) rfl rfl ?_
        refine DL.not (i := 10) rfl (Wn.yes c202 rfl rfl rfl rfl) rfl rfl ?_
        refine DL.not (i := 11) rfl (Wn.yes c202 rfl rfl rfl rfl) rfl rfl ?_
        refine DL.not (i := 12) rfl (Wn.undef rfl rfl rfl) rfl rfl ?_
        refine DL.not (i := 13) rfl (Wn.undef rfl rfl rfl) rfl rfl ?_
        refine DL.not (i := 14) rfl (Wn.yes c202 rfl rfl rfl rfl) rfl rfl ?_
        refine DL.not (i := 15) rfl (Wn.yes c202 rfl rfl rfl rfl) rfl rfl ?_
        refine DL.not (i := 16) rfl (Wn.undef rfl rfl rfl) rfl rfl ?_
        refine DL.not (i := 17) rfl (Wn.undef rfl rfl rfl) rfl rfl ?_
        refine DL.not (i := 18) rfl (Wn.undef rfl rfl rfl) rfl rfl ?_
        refine DL.not (i := 19) rfl (Wn.yes c202 rfl rfl rfl rfl) rfl rfl ?_
        refine DL.pu 136 (.bool true) rfl (p_pick_t c202 rfl rfl rfl) ?_
        obtain rfl := Option.some.inj h203
        exact DL.weak J201 (Sub.cons rfl (Sub.nil _))
      · replace c202 := Bool.eq_false_iff.mpr c202
        have h204 := ite_false c202 h199
        refine DL.pure (v := .int .u64 t191) rfl (Wn.no c202 rfl rfl rfl rfl) rfl rfl rfl (p_move rfl rfl) ?_
        refine DL.pure (v := .int .u64 a3) rfl (Wn.no c202 rfl rfl rfl rfl) rfl rfl rfl (p_move rfl rfl) ?_
        refine DL.pure (v := .bool (t191 == a3)) rfl (Wn.no c202 rfl rfl rfl rfl) rfl rfl rfl (p_eql rfl rfl rfl) ?_
        refine DL.pure (v := .bool (t191 == a3)) rfl (Wn.no c202 rfl rfl rfl rfl) rfl rfl rfl (p_move rfl rfl) ?_
        obtain ⟨q206, h207, h208⟩ := bind_some h204
        refine DL.cut [(15, ptr b173 0), (17, .int .u64 t175), (119, .bool (decide (t191 < a3))), (126, .bool q206)] [11, 12, 13, 14, 15, 16, 17, 18, 19, 20, 21] ?_ (fun J209 => ?_)
        · refine DL.pure (v := .bool q206) rfl (Wn.no c202 rfl rfl rfl rfl) rfl rfl rfl (p_move rfl rfl) ?_
          obtain ⟨q214, h215, h216⟩ := bind_some h208
          refine DL.cut [(15, ptr b173 0), (119, .bool (decide (t191 < a3))), (130, .bool q214)] [15, 16, 17, 18, 19, 20, 21] ?_ (fun J217 => ?_)
          · refine DL.pure (v := .bool q214) rfl (Wn.no c202 rfl rfl rfl rfl) rfl rfl rfl (p_move rfl rfl) ?_
            obtain ⟨q222, h223, h224⟩ := bind_some h216
            refine DL.cut [(119, .bool (decide (t191 < a3))), (135, .bool q222)] [20, 21] ?_ (fun J225 => ?_)
            · refine DL.pu 136 (.bool q222) rfl (p_pick_f c202 rfl rfl rfl) ?_
              obtain rfl := Option.some.inj h224
              exact DL.weak J201 (Sub.cons rfl (Sub.nil _))
            · by_cases c226 : q214 = true
              · have h227 := ite_true c226 h223
                refine DL.pure (v := ptr b173 ((0 : Int).toNat)) rfl (Wn.yes c226 rfl rfl rfl rfl) rfl rfl rfl (p_ix ty_u58 ty_s35 (by decide) (by decide) rfl rfl rfl) ?_
                refine DL.quiet (v := .int .u64 (t163.getD ((0 : Int).toNat) 0)) rfl (Wn.yes c226 rfl rfl rfl rfl) rfl rfl rfl (f_load (j := 1) ty_a35 rfl (enc_at l_t163 (by decide) (by decide)) rfl rfl) ?_
                refine DL.pure (v := .bool ((t163.getD ((0 : Int).toNat) 0) == 0)) rfl (Wn.yes c226 rfl rfl rfl rfl) rfl rfl rfl (p_eql rfl rfl rfl) ?_
                refine DL.pure (v := .bool ((t163.getD ((0 : Int).toNat) 0) == 0)) rfl (Wn.no c202 rfl rfl rfl rfl) rfl rfl rfl (p_pick_t c226 rfl rfl rfl) ?_
                obtain rfl := Option.some.inj h227
                exact DL.weak J225 (Sub.cons rfl (Sub.cons rfl (Sub.nil _)))
              · replace c226 := Bool.eq_false_iff.mpr c226
                have h228 := ite_false c226 h223
                refine DL.not (i := 16) rfl (Wn.no c226 rfl rfl rfl rfl) rfl rfl ?_
                refine DL.not (i := 17) rfl (Wn.no c226 rfl rfl rfl rfl) rfl rfl ?_
                refine DL.not (i := 18) rfl (Wn.no c226 rfl rfl rfl rfl) rfl rfl ?_
                refine DL.pure (v := .bool false) rfl (Wn.no c202 rfl rfl rfl rfl) rfl rfl rfl (p_pick_f c226 rfl rfl rfl) ?_
                obtain rfl := Option.some.inj h228
                exact DL.weak J225 (Sub.cons rfl (Sub.cons rfl (Sub.nil _)))
          · by_cases c218 : q206 = true
            · have h219 := ite_true c218 h215
              refine DL.pure (v := .int .u64 t175) rfl (Wn.yes c218 rfl rfl rfl rfl) rfl rfl rfl (p_move rfl rfl) ?_
              refine DL.pure (v := .bool (t175 == 0)) rfl (Wn.yes c218 rfl rfl rfl rfl) rfl rfl rfl (p_eql rfl rfl rfl) ?_
              refine DL.pure (v := .bool (t175 == 0)) rfl (Wn.no c202 rfl rfl rfl rfl) rfl rfl rfl (p_pick_t c218 rfl rfl rfl) ?_
              obtain rfl := Option.some.inj h219
              exact DL.weak J217 (Sub.cons rfl (Sub.cons rfl (Sub.cons rfl (Sub.nil _))))
            · replace c218 := Bool.eq_false_iff.mpr c218
              have h220 := ite_false c218 h215
              refine DL.not (i := 12) rfl (Wn.no c218 rfl rfl rfl rfl) rfl rfl ?_
              refine DL.not (i := 13) rfl (Wn.no c218 rfl rfl rfl rfl) rfl rfl ?_
              refine DL.pure (v := .bool false) rfl (Wn.no c202 rfl rfl rfl rfl) rfl rfl rfl (p_pick_f c218 rfl rfl rfl) ?_
              obtain rfl := Option.some.inj h220
              exact DL.weak J217 (Sub.cons rfl (Sub.cons rfl (Sub.cons rfl (Sub.nil _))))
        · by_cases c210 : (t191 == a3) = true
          · have h211 := ite_true c210 h207
            refine DL.pure (v := .int .u64 t183) rfl (Wn.yes c210 rfl rfl rfl rfl) rfl rfl rfl (p_move rfl rfl) ?_
            refine DL.pure (v := .bool (t183 == 0)) rfl (Wn.yes c210 rfl rfl rfl rfl) rfl rfl rfl (p_eql rfl rfl rfl) ?_
            refine DL.pure (v := .bool (t183 == 0)) rfl (Wn.no c202 rfl rfl rfl rfl) rfl rfl rfl (p_pick_t c210 rfl rfl rfl) ?_
            obtain rfl := Option.some.inj h211
            exact DL.weak J209 (Sub.cons rfl (Sub.cons rfl (Sub.cons rfl (Sub.cons rfl (Sub.nil _)))))
          · replace c210 := Bool.eq_false_iff.mpr c210
            have h212 := ite_false c210 h207
            refine DL.not (i := 8) rfl (Wn.no c210 rfl rfl rfl rfl) rfl rfl ?_
            refine DL.not (i := 9) rfl (Wn.no c210 rfl rfl rfl rfl) rfl rfl ?_
            refine DL.pure (v := .bool false) rfl (Wn.no c202 rfl rfl rfl rfl) rfl rfl rfl (p_pick_f c210 rfl rfl rfl) ?_
            obtain rfl := Option.some.inj h212
            exact DL.weak J209 (Sub.cons rfl (Sub.cons rfl (Sub.cons rfl (Sub.cons rfl (Sub.nil _)))))
theorem sha_below.val {a0 : Int} {a1 : Int} {a2 : Bool} {a3 : Int} {r : Bool} (h : sha_below.f a0 a1 a2 a3 = some r) {M : Mem} (w : World) (hM : Ext M (heapOf w)) : Calls Try.prog 21 #[.int .u64 a0, .int .u64 a1, .bool a2, .int .u64 a3] w fun e w' => e = .returned (.bool r) ∧ Below w.heap.size w w' :=
  calls_value (sha_below.ok h w hM)

/-! ### escutcheon/sha.root: function 16 -/
noncomputable def B16 : Code := bodyOf Try.f16
def sha_root.L0 (a0 : Int) (a1 : Bool) : Nat → Int → Option (Int)
  | 0, _ => none
  | k + 1, x5_1 => (sha_below.f (IntKind.u64.wrap (x5_1 + 1)) 0 a1 a0).bind fun t59 => if t59 = true then (sha_root.L0 a0 a1 k (IntKind.u64.wrap (x5_1 + 1))) else (some x5_1)
set_option maxRecDepth 20000 in
theorem sha_root.L0_ok (a0 : Int) (a1 : Bool) {R : Ending → World → Prop} {w0 : World} {M0 M I : Mem} {K : List Item} (hE : Env w0 M0 M I) :
    ∀ (k : Nat) (x5_1 : Int) (r0_ : Int) (h : sha_root.L0 a0 a1 k x5_1 = some r0_) (hk : TT Try.prog 16 R 32 w0 I K [(0, .int .u64 a0), (1, .bool a1), (5, .int .u64 r0_)] []),
      TT Try.prog 16 R 32 w0 I (.code (sub [1, 1, 0, 0, 0] B16) :: .inLoop (sub [1, 1, 0, 0, 0] B16) :: .inBlock 0 :: K) [(0, .int .u64 a0), (1, .bool a1), (5, .int .u64 x5_1)] [] := by
  intro k
  induction k with
  | zero => intro x5_1 r0_ h; simp [sha_root.L0] at h
  | succ k ih =>
    intro x5_1 r0_ h hk
    unfold sha_root.L0 at h
    refine TT.seq (x := sub [1, 1, 0, 0, 0, 0] B16) (y := sub [1, 1, 0, 0, 0, 1] B16) ?_
    refine TT.seq (x := sub [1, 1, 0, 0, 0, 0, 0] B16) (y := sub [1, 1, 0, 0, 0, 0, 1] B16) ?_
    refine TT.region (id := 2) (n := 5) (ops := (opsOf (sub [1, 1, 0, 0, 0, 0, 0] B16))) [(.pure, none), (.pure, none), (.pure, none), (.pure, none), (.quiet, none)] rfl ?_
    show DL _ _ _ _ _ _ _ _ _ _ [0, 1, 2, 3, 4] _ _
    refine DL.pu 9 (.int .u64 x5_1) rfl (p_move rfl rfl) ?_
    refine DL.pu 10 (.int .u64 (IntKind.u64.wrap (x5_1 + 1))) rfl (p_add rfl rfl rfl) ?_
    refine DL.pu 11 (.bool a1) rfl (p_move rfl rfl) ?_
    refine DL.pu 12 (.int .u64 a0) rfl (p_move rfl rfl) ?_
    obtain ⟨t59, h60, h61⟩ := bind_some h
    refine DL.qu 13 (.bool t59) rfl (f_callR rfl rfl (args_val (vs := [.int .u64 (IntKind.u64.wrap (x5_1 + 1)), .int .u64 0, .bool a1, .int .u64 a0]) rfl) (fun w => enter21 _ w) (fun w hc => sha_below.val h60 (M := M) w (hE.ext hc) )) ?_
    refine DL.nil ?_
    by_cases c62 : t59 = true
    · have h63 := ite_true c62 h61
      refine TT.cond_true (x := sub [1, 1, 0, 0, 0, 0, 1, 0] B16) (y := sub [1, 1, 0, 0, 0, 0, 1, 1] B16) rfl c62 ?_
      refine TT.skip ?_
      refine TT.block (c := sub [1, 1, 0, 0, 0, 1, 0] B16) ?_
      refine TT.region (id := 3) (n := 3) (ops := (opsOf (sub [1, 1, 0, 0, 0, 1, 0] B16))) [(.pure, none), (.pure, none), (.pure, none)] rfl ?_
      show DL _ _ _ _ _ _ _ _ _ _ [0, 1, 2] _ _
      refine DL.pu 14 (.int .u64 x5_1) rfl (p_move rfl rfl) ?_
      refine DL.pu 15 (.int .u64 (IntKind.u64.wrap (x5_1 + 1))) rfl (p_add rfl rfl rfl) ?_
      refine DL.pu 5 (.int .u64 (IntKind.u64.wrap (x5_1 + 1))) rfl (p_assign rfl rfl) ?_
      refine DL.nil ?_
      refine TT.inBlock ?_
      refine TT.inLoop ?_
      exact TT.weak (ih (IntKind.u64.wrap (x5_1 + 1)) r0_ h63 hk) (Sub.cons rfl (Sub.cons rfl (Sub.cons rfl (Sub.nil _))))
    · replace c62 := Bool.eq_false_iff.mpr c62
      have h64 := ite_false c62 h61
      refine TT.cond_false (x := sub [1, 1, 0, 0, 0, 0, 1, 0] B16) (y := sub [1, 1, 0, 0, 0, 0, 1, 1] B16) rfl c62 ?_
      refine TT.exit rfl ?_
      obtain rfl := Option.some.inj h64
      exact TT.weak (hk) (Sub.cons rfl (Sub.cons rfl (Sub.cons rfl (Sub.nil _))))

def sha_root.L1 (a0 : Int) (a1 : Bool) (z5_58 : Int) : Nat → Int → Int → Option (Int)
  | 0, _, _ => none
  | k + 1, x6_68, x16_69 => if (decide (x16_69 < 64)) = true then (req (0 ≤ (IntKind.i64.wrap (63 - x16_69))) (nm (ior .u64 x6_68 (ishl .u64 1 (IntKind.i64.wrap (63 - x16_69)))) fun t144 => (sha_below.f z5_58 t144 a1 a0).bind fun t147 => (if t147 = true then (some t144) else (some x6_68)).bind fun j6_151 => sha_root.L1 a0 a1 z5_58 k j6_151 (IntKind.i64.wrap (x16_69 + 1)))) else (some x6_68)
set_option maxRecDepth 20000 in
theorem sha_root.L1_ok (a0 : Int) (a1 : Bool) (z5_58 : Int) {R : Ending → World → Prop} {w0 : World} {M0 M I : Mem} {K : List Item} (hE : Env w0 M0 M I) :
    ∀ (k : Nat) (x6_68 : Int) (x16_69 : Int) (r0_ : Int) (h : sha_root.L1 a0 a1 z5_58 k x6_68 x16_69 = some r0_) (hk : TT Try.prog 16 R 32 w0 I K [(6, .int .u64 r0_)] []),
      TT Try.prog 16 R 32 w0 I (.code (sub [1, 1, 1, 1, 0, 1, 0, 0] B16) :: .inLoop (sub [1, 1, 1, 1, 0, 1, 0, 0] B16) :: .inBlock 2 :: K) [(0, .int .u64 a0), (1, .bool a1), (5, .int .u64 z5_58), (6, .int .u64 x6_68), (16, .int .i64 x16_69)] [] := by
  intro k
  induction k with
  | zero => intro x6_68 x16_69 r0_ h; simp [sha_root.L1] at h
  | succ k ih =>
    intro x6_68 x16_69 r0_ h hk
    unfold sha_root.L1 at h
    refine TT.seq (x := sub [1, 1, 1, 1, 0, 1, 0, 0, 0] B16) (y := sub [1, 1, 1, 1, 0, 1, 0, 0, 1] B16) ?_
    refine TT.region (id := 6) (n := 1) (ops := (opsOf (sub [1, 1, 1, 1, 0, 1, 0, 0, 0] B16))) [(.pure, none)] rfl ?_
    show DL _ _ _ _ _ _ _ _ _ _ [0] _ _
    refine DL.pu 17 (.bool (decide (x16_69 < 64))) rfl (p_lss rfl rfl rfl) ?_
    refine DL.nil ?_
    refine TT.seq (x := sub [1, 1, 1, 1, 0, 1, 0, 0, 1, 0] B16) (y := sub [1, 1, 1, 1, 0, 1, 0, 0, 1, 1] B16) ?_
    by_cases c140 : (decide (x16_69 < 64)) = true
    · have h141 := ite_true c140 h
      refine TT.cond_true (x := sub [1, 1, 1, 1, 0, 1, 0, 0, 1, 0, 0] B16) (y := sub [1, 1, 1, 1, 0, 1, 0, 0, 1, 0, 1] B16) rfl c140 ?_
      refine TT.skip ?_
      refine TT.seq (x := sub [1, 1, 1, 1, 0, 1, 0, 0, 1, 1, 0] B16) (y := sub [1, 1, 1, 1, 0, 1, 0, 0, 1, 1, 1] B16) ?_
      refine TT.block (c := sub [1, 1, 1, 1, 0, 1, 0, 0, 1, 1, 0, 0] B16) ?_
      refine TT.seq (x := sub [1, 1, 1, 1, 0, 1, 0, 0, 1, 1, 0, 0, 0] B16) (y := sub [1, 1, 1, 1, 0, 1, 0, 0, 1, 1, 0, 0, 1] B16) ?_
      refine TT.region (id := 7) (n := 2) (ops := (opsOf (sub [1, 1, 1, 1, 0, 1, 0, 0, 1, 1, 0, 0, 0] B16))) [(.pure, none), (.pure, none)] rfl ?_
      show DL _ _ _ _ _ _ _ _ _ _ [0, 1] _ _
      refine DL.pu 18 (.int .i64 x16_69) rfl (p_move rfl rfl) ?_
      refine DL.pu 7 (.int .i64 x16_69) rfl (p_assign rfl rfl) ?_
      refine DL.nil ?_
      refine TT.seq (x := sub [1, 1, 1, 1, 0, 1, 0, 0, 1, 1, 0, 0, 1, 0] B16) (y := sub [1, 1, 1, 1, 0, 1, 0, 0, 1, 1, 0, 0, 1, 1] B16) ?_
      refine TT.region (id := 8) (n := 6) (ops := (opsOf (sub [1, 1, 1, 1, 0, 1, 0, 0, 1, 1, 0, 0, 1, 0] B16))) [(.pure, none), (.pure, none), (.pure, none), (.pure, none), (.pure, none), (.pure, none)] rfl ?_
      show DL _ _ _ _ _ _ _ _ _ _ [0, 1, 2, 3, 4, 5] _ _
      refine DL.pu 19 (.int .u64 x6_68) rfl (p_move rfl rfl) ?_
      refine DL.pu 20 (.int .i64 x16_69) rfl (p_move rfl rfl) ?_
      refine DL.pu 21 (.int .i64 (IntKind.i64.wrap (63 - x16_69))) rfl (p_sub rfl rfl rfl) ?_
      obtain ⟨g142, h143⟩ := req_some h141
      refine DL.pu 22 (.int .u64 (ishl .u64 1 (IntKind.i64.wrap (63 - x16_69)))) rfl (p_shl g142 rfl rfl rfl) ?_
      obtain ⟨t144, e145, h146⟩ := nm_some h143
      refine DL.pu 23 (.int .u64 t144) rfl (by rw [e145]; exact p_or rfl rfl rfl) ?_
      refine DL.pu 8 (.int .u64 t144) rfl (p_assign rfl rfl) ?_
      refine DL.nil ?_
      refine TT.seq (x := sub [1, 1, 1, 1, 0, 1, 0, 0, 1, 1, 0, 0, 1, 1, 0] B16) (y := sub [1, 1, 1, 1, 0, 1, 0, 0, 1, 1, 0, 0, 1, 1, 1] B16) ?_
      refine TT.region (id := 9) (n := 5) (ops := (opsOf (sub [1, 1, 1, 1, 0, 1, 0, 0, 1, 1, 0, 0, 1, 1, 0] B16))) [(.pure, none), (.pure, none), (.pure, none), (.pure, none), (.quiet, none)] rfl ?_
      show DL _ _ _ _ _ _ _ _ _ _ [0, 1, 2, 3, 4] _ _
      refine DL.pu 24 (.int .u64 z5_58) rfl (p_move rfl rfl) ?_
      refine DL.pu 25 (.int .u64 t144) rfl (p_move rfl rfl) ?_
      refine DL.pu 26 (.bool a1) rfl (p_move rfl rfl) ?_
      refine DL.pu 27 (.int .u64 a0) rfl (p_move rfl rfl) ?_
      obtain ⟨t147, h148, h149⟩ := bind_some h146
      refine DL.qu 28 (.bool t147) rfl (f_callR rfl rfl (args_val (vs := [.int .u64 z5_58, .int .u64 t144, .bool a1, .int .u64 a0]) rfl) (fun w => enter21 _ w) (fun w hc => sha_below.val h148 (M := M) w (hE.ext hc) )) ?_
      refine DL.nil ?_
      obtain ⟨j6_151, h152, h153⟩ := bind_some h149
      have J154 : TT Try.prog 16 R 32 w0 I (.inBlock 3 :: .code (sub [1, 1, 1, 1, 0, 1, 0, 0, 1, 1, 1] B16) :: .inLoop (sub [1, 1, 1, 1, 0, 1, 0, 0] B16) :: .inBlock 2 :: K) [(0, .int .u64 a0), (1, .bool a1), (5, .int .u64 z5_58), (6, .int .u64 j6_151), (16, .int .i64 x16_69)] [] := by
        refine TT.inBlock ?_
        refine TT.region (id := 11) (n := 2) (ops := (opsOf (sub [1, 1, 1, 1, 0, 1, 0, 0, 1, 1, 1] B16))) [(.pure, none), (.pure, none)] rfl ?_
        show DL _ _ _ _ _ _ _ _ _ _ [0, 1] _ _
        refine DL.pu 30 (.int .i64 (IntKind.i64.wrap (x16_69 + 1))) rfl (p_add rfl rfl rfl) ?_
        refine DL.pu 16 (.int .i64 (IntKind.i64.wrap (x16_69 + 1))) rfl (p_move rfl rfl) ?_
        refine DL.nil ?_
        refine TT.inLoop ?_
        exact TT.weak (ih j6_151 (IntKind.i64.wrap (x16_69 + 1)) r0_ h153 hk) (Sub.cons rfl (Sub.cons rfl (Sub.cons rfl (Sub.cons rfl (Sub.cons rfl (Sub.nil _))))))
      by_cases c150 : t147 = true
      · have h156 := ite_true c150 h152
        refine TT.cond_true (x := sub [1, 1, 1, 1, 0, 1, 0, 0, 1, 1, 0, 0, 1, 1, 1, 0] B16) (y := sub [1, 1, 1, 1, 0, 1, 0, 0, 1, 1, 0, 0, 1, 1, 1, 1] B16) rfl c150 ?_
        refine TT.region (id := 10) (n := 2) (ops := (opsOf (sub [1, 1, 1, 1, 0, 1, 0, 0, 1, 1, 0, 0, 1, 1, 1, 0] B16))) [(.pure, none), (.pure, none)] rfl ?_
        show DL _ _ _ _ _ _ _ _ _ _ [0, 1] _ _
        refine DL.pu 29 (.int .u64 t144) rfl (p_move rfl rfl) ?_
        refine DL.pu 6 (.int .u64 t144) rfl (p_assign rfl rfl) ?_
        refine DL.nil ?_
        obtain rfl := Option.some.inj h156
        exact TT.weak (J154 ) (Sub.cons rfl (Sub.cons rfl (Sub.cons rfl (Sub.cons rfl (Sub.cons rfl (Sub.nil _))))))
      · replace c150 := Bool.eq_false_iff.mpr c150
        have h157 := ite_false c150 h152
        refine TT.cond_false (x := sub [1, 1, 1, 1, 0, 1, 0, 0, 1, 1, 0, 0, 1, 1, 1, 0] B16) (y := sub [1, 1, 1, 1, 0, 1, 0, 0, 1, 1, 0, 0, 1, 1, 1, 1] B16) rfl c150 ?_
        refine TT.skip ?_
        obtain rfl := Option.some.inj h157
        exact TT.weak (J154 ) (Sub.cons rfl (Sub.cons rfl (Sub.cons rfl (Sub.cons rfl (Sub.cons rfl (Sub.nil _))))))
    · replace c140 := Bool.eq_false_iff.mpr c140
      have h158 := ite_false c140 h
      refine TT.cond_false (x := sub [1, 1, 1, 1, 0, 1, 0, 0, 1, 0, 0] B16) (y := sub [1, 1, 1, 1, 0, 1, 0, 0, 1, 0, 1] B16) rfl c140 ?_
      refine TT.exit rfl ?_
      obtain rfl := Option.some.inj h158
      exact TT.weak (hk) (Sub.cons rfl (Sub.nil _))

def sha_root.f (a0 : Int) (a1 : Bool) : Option (Int) := (sha_root.L0 a0 a1 30 0).bind fun z5_58 => (sha_root.L1 a0 a1 z5_58 65 0 0).bind fun z6_139 => some z6_139
set_option maxRecDepth 20000 in
theorem sha_root.ok {a0 : Int} {a1 : Bool} {r : Int} (h : sha_root.f a0 a1 = some r) {M : Mem} (w : World) (hM : Ext M (heapOf w)) : Calls Try.prog 16 #[.int .u64 a0, .bool a1] w (Post (fun u => u = .int .u64 r) w) := by
  unfold sha_root.f at h
  have hE := Env.start hM
  refine calls_of_TT (N := 32) (S := [(0, .int .u64 a0), (1, .bool a1)]) (c := B16) Try.func16 rfl rfl rfl (by simp) ?_
  show TT _ _ _ _ _ _ [.code (sub [] B16)] _ _
  refine TT.seq (x := sub [0] B16) (y := sub [1] B16) ?_
  refine TT.region (id := 0) (n := 1) (ops := (opsOf (sub [0] B16))) [(.pure, none)] rfl ?_
  show DL _ _ _ _ _ _ _ _ _ _ [0] _ _
  refine DL.pu 4 (.int .u64 0) rfl (p_assign rfl rfl) ?_
  refine DL.nil ?_
  refine TT.seq (x := sub [1, 0] B16) (y := sub [1, 1] B16) ?_
  refine TT.region (id := 1) (n := 1) (ops := (opsOf (sub [1, 0] B16))) [(.pure, none)] rfl ?_
  show DL _ _ _ _ _ _ _ _ _ _ [0] _ _
  refine DL.pu 5 (.int .u64 0) rfl (p_assign rfl rfl) ?_
  refine DL.nil ?_
  refine TT.seq (x := sub [1, 1, 0] B16) (y := sub [1, 1, 1] B16) ?_
  refine TT.block (c := sub [1, 1, 0, 0] B16) ?_
  refine TT.loop (c := sub [1, 1, 0, 0, 0] B16) ?_
  obtain ⟨z5_58, h65, h66⟩ := bind_some h
  refine TT.weak (sha_root.L0_ok a0 a1 hE 30 0 z5_58 h65 ( ?_)) (Sub.cons rfl (Sub.cons rfl (Sub.cons rfl (Sub.nil _))))
  refine TT.seq (x := sub [1, 1, 1, 0] B16) (y := sub [1, 1, 1, 1] B16) ?_
  refine TT.region (id := 4) (n := 1) (ops := (opsOf (sub [1, 1, 1, 0] B16))) [(.pure, none)] rfl ?_
  show DL _ _ _ _ _ _ _ _ _ _ [0] _ _
  refine DL.pu 6 (.int .u64 0) rfl (p_assign rfl rfl) ?_
  refine DL.nil ?_
  refine TT.seq (x := sub [1, 1, 1, 1, 0] B16) (y := sub [1, 1, 1, 1, 1] B16) ?_
  refine TT.seq (x := sub [1, 1, 1, 1, 0, 0] B16) (y := sub [1, 1, 1, 1, 0, 1] B16) ?_
  refine TT.region (id := 5) (n := 1) (ops := (opsOf (sub [1, 1, 1, 1, 0, 0] B16))) [(.pure, none)] rfl ?_
  show DL _ _ _ _ _ _ _ _ _ _ [0] _ _
  refine DL.pu 16 (.int .i64 0) rfl (p_move rfl rfl) ?_
  refine DL.nil ?_
  refine TT.block (c := sub [1, 1, 1, 1, 0, 1, 0] B16) ?_
  refine TT.loop (c := sub [1, 1, 1, 1, 0, 1, 0, 0] B16) ?_
  obtain ⟨z6_139, h159, h160⟩ := bind_some h66
  refine TT.weak (sha_root.L1_ok a0 a1 z5_58 hE 65 0 0 z6_139 h159 ( ?_)) (Sub.cons rfl (Sub.cons rfl (Sub.cons rfl (Sub.cons rfl (Sub.cons rfl (Sub.nil _))))))
  refine TT.seq (x := sub [1, 1, 1, 1, 1, 0] B16) (y := sub [1, 1, 1, 1, 1, 1] B16) ?_
  refine TT.region (id := 12) (n := 2) (ops := (opsOf (sub [1, 1, 1, 1, 1, 0] B16))) [(.pure, none), (.pure, none)] rfl ?_
  show DL _ _ _ _ _ _ _ _ _ _ [0, 1] _ _
  refine DL.pu 31 (.int .u64 z6_139) rfl (p_move rfl rfl) ?_
  refine DL.pu 4 (.int .u64 z6_139) rfl (p_assign rfl rfl) ?_
  refine DL.nil ?_
  obtain rfl := Option.some.inj h160
  exact retnE (rs := [.tmp 4]) (vs := [.int .u64 z6_139]) hE.base Try.func16 rfl rfl rfl (res_cons (ResV.tmp rfl) res_nil) rfl
theorem sha_root.val {a0 : Int} {a1 : Bool} {r : Int} (h : sha_root.f a0 a1 = some r) {M : Mem} (w : World) (hM : Ext M (heapOf w)) : Calls Try.prog 16 #[.int .u64 a0, .bool a1] w fun e w' => e = .returned (.int .u64 r) ∧ Below w.heap.size w w' :=
  calls_value (sha_root.ok h w hM)

/-! ### escutcheon/sha.all: function 11 -/
noncomputable def B11 : Code := bodyOf Try.f11
def sha_all.L1 (x3_3 : Int) : Nat → Bool → Int → Option (Bool)
  | 0, _, _ => none
  | k + 1, x4_173, x5_174 => nm (decide ((IntKind.u64.wrap (x5_174 * x5_174)) ≤ x3_3)) fun t239 => if t239 = true then ((if x4_173 = true then (req (x5_174 ≠ 0) (some ((Int.tmod x3_3 x5_174) != 0))) else (some false)).bind fun q245 => sha_all.L1 x3_3 k q245 (IntKind.u64.wrap (x5_174 + 1))) else (some x4_173)
set_option maxRecDepth 20000 in
theorem sha_all.L1_ok (b1 : Nat) (x2_2 : Int) (x3_3 : Int) (y_4 : List Int) {R : Ending → World → Prop} {w0 : World} {M0 M I : Mem} {K : List Item} (hE : Env w0 M0 M I) :
    ∀ (k : Nat) (x4_173 : Bool) (x5_174 : Int) (r0_ : Bool) (h : sha_all.L1 x3_3 k x4_173 x5_174 = some r0_) (hk : TT Try.prog 11 R 47 w0 I K [(1, ptr b1 0), (2, .int .i64 x2_2), (3, .int .u64 x3_3), (4, .bool r0_)] [(some b1, .cells (enc .u64 y_4) 45 (0, 0))]),
      TT Try.prog 11 R 47 w0 I (.code (sub [1, 1, 1, 0, 1, 0, 0, 1, 0, 0, 1, 0, 1, 0, 0] B11) :: .inLoop (sub [1, 1, 1, 0, 1, 0, 0, 1, 0, 0, 1, 0, 1, 0, 0] B11) :: .inBlock 2 :: K) [(1, ptr b1 0), (2, .int .i64 x2_2), (3, .int .u64 x3_3), (4, .bool x4_173), (5, .int .u64 x5_174)] [(some b1, .cells (enc .u64 y_4) 45 (0, 0))] := by
  intro k
  induction k with
  | zero => intro x4_173 x5_174 r0_ h; simp [sha_all.L1] at h
  | succ k ih =>
    intro x4_173 x5_174 r0_ h hk
    unfold sha_all.L1 at h
    refine TT.seq (x := sub [1, 1, 1, 0, 1, 0, 0, 1, 0, 0, 1, 0, 1, 0, 0, 0] B11) (y := sub [1, 1, 1, 0, 1, 0, 0, 1, 0, 0, 1, 0, 1, 0, 0, 1] B11) ?_
    refine TT.seq (x := sub [1, 1, 1, 0, 1, 0, 0, 1, 0, 0, 1, 0, 1, 0, 0, 0, 0] B11) (y := sub [1, 1, 1, 0, 1, 0, 0, 1, 0, 0, 1, 0, 1, 0, 0, 0, 1] B11) ?_
    refine TT.region (id := 8) (n := 5) (ops := (opsOf (sub [1, 1, 1, 0, 1, 0, 0, 1, 0, 0, 1, 0, 1, 0, 0, 0, 0] B11))) [(.pure, none), (.pure, none), (.pure, none), (.pure, none), (.pure, none)] rfl ?_
    show DL _ _ _ _ _ _ _ _ _ _ [0, 1, 2, 3, 4] _ _
    refine DL.pu 12 (.int .u64 x5_174) rfl (p_move rfl rfl) ?_
    refine DL.pu 13 (.int .u64 x5_174) rfl (p_move rfl rfl) ?_
    refine DL.pu 14 (.int .u64 (IntKind.u64.wrap (x5_174 * x5_174))) rfl (p_mul rfl rfl rfl) ?_
    refine DL.pu 15 (.int .u64 x3_3) rfl (p_move rfl rfl) ?_
    obtain ⟨t239, e240, h241⟩ := nm_some h
    refine DL.pu 16 (.bool t239) rfl (by rw [e240]; exact p_leq rfl rfl rfl) ?_
    refine DL.nil ?_
    by_cases c242 : t239 = true
    · have h243 := ite_true c242 h241
      refine TT.cond_true (x := sub [1, 1, 1, 0, 1, 0, 0, 1, 0, 0, 1, 0, 1, 0, 0, 0, 1, 0] B11) (y := sub [1, 1, 1, 0, 1, 0, 0, 1, 0, 0, 1, 0, 1, 0, 0, 0, 1, 1] B11) rfl c242 ?_
      refine TT.skip ?_
      refine TT.seq (x := sub [1, 1, 1, 0, 1, 0, 0, 1, 0, 0, 1, 0, 1, 0, 0, 1, 0] B11) (y := sub [1, 1, 1, 0, 1, 0, 0, 1, 0, 0, 1, 0, 1, 0, 0, 1, 1] B11) ?_
      refine TT.block (c := sub [1, 1, 1, 0, 1, 0, 0, 1, 0, 0, 1, 0, 1, 0, 0, 1, 0, 0] B11) ?_
      refine TT.region (id := 10) (n := 8) (ops := (opsOf (sub [1, 1, 1, 0, 1, 0, 0, 1, 0, 0, 1, 0, 1, 0, 0, 1, 0, 0] B11))) [(.pure, none), (.pure, none), (.pure, none), (.pure, none), (.pure, none), (.pure, none), (.pure, none), (.pure, none)] rfl ?_
      show DL _ _ _ _ _ _ _ _ _ _ [0, 1, 2, 3, 4, 5, 6, 7] _ _
      refine DL.pu 19 (.bool x4_173) rfl (p_move rfl rfl) ?_
      refine DL.pu 20 (.bool x4_173) rfl (p_move rfl rfl) ?_
      obtain ⟨q245, h246, h247⟩ := bind_some h243
      refine DL.cut [(1, ptr b1 0), (2, .int .i64 x2_2), (3, .int .u64 x3_3), (5, .int .u64 x5_174), (25, .bool q245)] [7] ?_ (fun J248 => ?_)
      · refine DL.pu 4 (.bool q245) rfl (p_assign rfl rfl) ?_
        refine DL.nil ?_
        refine TT.inBlock ?_
        refine TT.region (id := 9) (n := 3) (ops := (opsOf (sub [1, 1, 1, 0, 1, 0, 0, 1, 0, 0, 1, 0, 1, 0, 0, 1, 1] B11))) [(.pure, none), (.pure, none), (.pure, none)] rfl ?_
        show DL _ _ _ _ _ _ _ _ _ _ [0, 1, 2] _ _
        refine DL.pu 17 (.int .u64 x5_174) rfl (p_move rfl rfl) ?_
        refine DL.pu 18 (.int .u64 (IntKind.u64.wrap (x5_174 + 1))) rfl (p_add rfl rfl rfl) ?_
        refine DL.pu 5 (.int .u64 (IntKind.u64.wrap (x5_174 + 1))) rfl (p_assign rfl rfl) ?_
        refine DL.nil ?_
        refine TT.inLoop ?_
        exact TT.weak (ih q245 (IntKind.u64.wrap (x5_174 + 1)) r0_ h247 hk) (Sub.cons rfl (Sub.cons rfl (Sub.cons rfl (Sub.cons rfl (Sub.cons rfl (Sub.nil _))))))
      · by_cases c249 : x4_173 = true
        · have h250 := ite_true c249 h246
          refine DL.pure (v := .int .u64 x3_3) rfl (Wn.yes c249 rfl rfl rfl rfl) rfl rfl rfl (p_move rfl rfl) ?_
          refine DL.pure (v := .int .u64 x5_174) rfl (Wn.yes c249 rfl rfl rfl rfl) rfl rfl rfl (p_move rfl rfl) ?_
          obtain ⟨g251, h252⟩ := req_some h250
          refine DL.pure (v := .int .u64 (Int.tmod x3_3 x5_174)) rfl (Wn.yes c249 rfl rfl rfl rfl) rfl rfl rfl (p_rem g251 rfl rfl rfl) ?_
          refine DL.pure (v := .bool ((Int.tmod x3_3 x5_174) != 0)) rfl (Wn.yes c249 rfl rfl rfl rfl) rfl rfl rfl (p_neq rfl rfl rfl) ?_
          refine DL.pu 25 (.bool ((Int.tmod x3_3 x5_174) != 0)) rfl (p_pick_t c249 rfl rfl rfl) ?_
          obtain rfl := Option.some.inj h252
          exact DL.weak J248 (Sub.cons rfl (Sub.cons rfl (Sub.cons rfl (Sub.cons rfl (Sub.cons rfl (Sub.nil _))))))
        · replace c249 := Bool.eq_false_iff.mpr c249
          have h253 := ite_false c249 h246
          refine DL.not (i := 2) rfl (Wn.no c249 rfl rfl rfl rfl) rfl rfl ?_
          refine DL.not (i := 3) rfl (Wn.no c249 rfl rfl rfl rfl) rfl rfl ?_
          refine DL.not (i := 4) rfl (Wn.no c249 rfl rfl rfl rfl) rfl rfl ?_
          refine DL.not (i := 5) rfl (Wn.no c249 rfl rfl rfl rfl) rfl rfl ?_
          refine DL.pu 25 (.bool false) rfl (p_pick_f c249 rfl rfl rfl) ?_
          obtain rfl := Option.some.inj h253
          exact DL.weak J248 (Sub.cons rfl (Sub.cons rfl (Sub.cons rfl (Sub.cons rfl (Sub.cons rfl (Sub.nil _))))))
    · replace c242 := Bool.eq_false_iff.mpr c242
      have h254 := ite_false c242 h241
      refine TT.cond_false (x := sub [1, 1, 1, 0, 1, 0, 0, 1, 0, 0, 1, 0, 1, 0, 0, 0, 1, 0] B11) (y := sub [1, 1, 1, 0, 1, 0, 0, 1, 0, 0, 1, 0, 1, 0, 0, 0, 1, 1] B11) rfl c242 ?_
      refine TT.exit rfl ?_
      obtain rfl := Option.some.inj h254
      exact TT.weak (hk) (Sub.cons rfl (Sub.cons rfl (Sub.cons rfl (Sub.cons rfl (Sub.nil _)))))

def sha_all.L0 : Nat → Int → Int → (List Int) → Option (List Int)
  | 0, _, _, _ => none
  | k + 1, x2_2, x3_3, y_4 => if (decide (x2_2 < 80)) = true then ((sha_all.L1 x3_3 30 true 2).bind fun z4_238 => if (!z4_238) = true then (sha_all.L0 k x2_2 (IntKind.u64.wrap (x3_3 + 1)) y_4) else ((if (decide (x2_2 < 8)) = true then ((sha_root.f x3_3 false).bind fun t269 => req (0 ≤ x2_2) (req (x2_2 < 8) (some (y_4.set (0 + x2_2.toNat) t269)))) else (some y_4)).bind fun j_b1_262 => (sha_root.f x3_3 true).bind fun t278 => req (0 ≤ x2_2) (req (x2_2 < 80) (sha_all.L0 k (IntKind.i64.wrap (x2_2 + 1)) (IntKind.u64.wrap (x3_3 + 1)) (j_b1_262.set (8 + x2_2.toNat) t278))))) else (some y_4)
set_option maxRecDepth 20000 in
theorem sha_all.L0_ok (b1 : Nat) {R : Ending → World → Prop} {w0 : World} {M0 M I : Mem} {K : List Item} (hE : Env w0 M0 M I) :
    ∀ (k : Nat) (x2_2 : Int) (x3_3 : Int) (y_4 : List Int) (r0_ : List Int) (l_y_4 : y_4.length = 88) (h : sha_all.L0 k x2_2 x3_3 y_4 = some r0_) (hk : r0_.length = 88 → TT Try.prog 11 R 47 w0 I K [(1, ptr b1 0)] [(some b1, .cells (enc .u64 r0_) 45 (0, 0))]),
      TT Try.prog 11 R 47 w0 I (.code (sub [1, 1, 1, 0, 1, 0, 0] B11) :: .inLoop (sub [1, 1, 1, 0, 1, 0, 0] B11) :: .inBlock 0 :: K) [(1, ptr b1 0), (2, .int .i64 x2_2), (3, .int .u64 x3_3)] [(some b1, .cells (enc .u64 y_4) 45 (0, 0))] := by
  intro k
  induction k with
  | zero => intro x2_2 x3_3 y_4 r0_ l_y_4 h; simp [sha_all.L0] at h
  | succ k ih =>
    intro x2_2 x3_3 y_4 r0_ l_y_4 h hk
    unfold sha_all.L0 at h
    refine TT.seq (x := sub [1, 1, 1, 0, 1, 0, 0, 0] B11) (y := sub [1, 1, 1, 0, 1, 0, 0, 1] B11) ?_
    refine TT.seq (x := sub [1, 1, 1, 0, 1, 0, 0, 0, 0] B11) (y := sub [1, 1, 1, 0, 1, 0, 0, 0, 1] B11) ?_
    refine TT.region (id := 4) (n := 2) (ops := (opsOf (sub [1, 1, 1, 0, 1, 0, 0, 0, 0] B11))) [(.pure, none), (.pure, none)] rfl ?_
    show DL _ _ _ _ _ _ _ _ _ _ [0, 1] _ _
    refine DL.pu 8 (.int .i64 x2_2) rfl (p_move rfl rfl) ?_
    refine DL.pu 9 (.bool (decide (x2_2 < 80))) rfl (p_lss rfl rfl rfl) ?_
    refine DL.nil ?_
    by_cases c171 : (decide (x2_2 < 80)) = true
    · have h172 := ite_true c171 h
      refine TT.cond_true (x := sub [1, 1, 1, 0, 1, 0, 0, 0, 1, 0] B11) (y := sub [1, 1, 1, 0, 1, 0, 0, 0, 1, 1] B11) rfl c171 ?_
      refine TT.skip ?_
      refine TT.seq (x := sub [1, 1, 1, 0, 1, 0, 0, 1, 0] B11) (y := sub [1, 1, 1, 0, 1, 0, 0, 1, 1] B11) ?_
      refine TT.block (c := sub [1, 1, 1, 0, 1, 0, 0, 1, 0, 0] B11) ?_
      refine TT.seq (x := sub [1, 1, 1, 0, 1, 0, 0, 1, 0, 0, 0] B11) (y := sub [1, 1, 1, 0, 1, 0, 0, 1, 0, 0, 1] B11) ?_
      refine TT.region (id := 6) (n := 1) (ops := (opsOf (sub [1, 1, 1, 0, 1, 0, 0, 1, 0, 0, 0] B11))) [(.pure, none)] rfl ?_
      show DL _ _ _ _ _ _ _ _ _ _ [0] _ _
      refine DL.pu 4 (.bool true) rfl (p_assign rfl rfl) ?_
      refine DL.nil ?_
      refine TT.seq (x := sub [1, 1, 1, 0, 1, 0, 0, 1, 0, 0, 1, 0] B11) (y := sub [1, 1, 1, 0, 1, 0, 0, 1, 0, 0, 1, 1] B11) ?_
      refine TT.seq (x := sub [1, 1, 1, 0, 1, 0, 0, 1, 0, 0, 1, 0, 0] B11) (y := sub [1, 1, 1, 0, 1, 0, 0, 1, 0, 0, 1, 0, 1] B11) ?_
      refine TT.region (id := 7) (n := 1) (ops := (opsOf (sub [1, 1, 1, 0, 1, 0, 0, 1, 0, 0, 1, 0, 0] B11))) [(.pure, none)] rfl ?_
      show DL _ _ _ _ _ _ _ _ _ _ [0] _ _
      refine DL.pu 5 (.int .u64 2) rfl (p_assign rfl rfl) ?_
      refine DL.nil ?_
      refine TT.block (c := sub [1, 1, 1, 0, 1, 0, 0, 1, 0, 0, 1, 0, 1, 0] B11) ?_
      refine TT.loop (c := sub [1, 1, 1, 0, 1, 0, 0, 1, 0, 0, 1, 0, 1, 0, 0] B11) ?_
      obtain ⟨z4_238, h255, h256⟩ := bind_some h172
      refine TT.weak (sha_all.L1_ok b1 x2_2 x3_3 y_4 hE 30 true 2 z4_238 h255 ( ?_)) (Sub.cons rfl (Sub.cons rfl (Sub.cons rfl (Sub.cons rfl (Sub.cons rfl (Sub.nil _))))))
      refine TT.seq (x := sub [1, 1, 1, 0, 1, 0, 0, 1, 0, 0, 1, 1, 0] B11) (y := sub [1, 1, 1, 0, 1, 0, 0, 1, 0, 0, 1, 1, 1] B11) ?_
      refine TT.seq (x := sub [1, 1, 1, 0, 1, 0, 0, 1, 0, 0, 1, 1, 0, 0] B11) (y := sub [1, 1, 1, 0, 1, 0, 0, 1, 0, 0, 1, 1, 0, 1] B11) ?_
      refine TT.region (id := 11) (n := 2) (ops := (opsOf (sub [1, 1, 1, 0, 1, 0, 0, 1, 0, 0, 1, 1, 0, 0] B11))) [(.pure, none), (.pure, none)] rfl ?_
      show DL _ _ _ _ _ _ _ _ _ _ [0, 1] _ _
      refine DL.pu 26 (.bool z4_238) rfl (p_move rfl rfl) ?_
      refine DL.pu 27 (.bool (!z4_238)) rfl (p_not rfl rfl) ?_
      refine DL.nil ?_
      by_cases c258 : (!z4_238) = true
      · have h259 := ite_true c258 h256
        refine TT.cond_true (x := sub [1, 1, 1, 0, 1, 0, 0, 1, 0, 0, 1, 1, 0, 1, 0] B11) (y := sub [1, 1, 1, 0, 1, 0, 0, 1, 0, 0, 1, 1, 0, 1, 1] B11) rfl c258 ?_
        refine TT.exit rfl ?_
        refine TT.region (id := 5) (n := 3) (ops := (opsOf (sub [1, 1, 1, 0, 1, 0, 0, 1, 1] B11))) [(.pure, none), (.pure, none), (.pure, none)] rfl ?_
        show DL _ _ _ _ _ _ _ _ _ _ [0, 1, 2] _ _
        refine DL.pu 10 (.int .u64 x3_3) rfl (p_move rfl rfl) ?_
        refine DL.pu 11 (.int .u64 (IntKind.u64.wrap (x3_3 + 1))) rfl (p_add rfl rfl rfl) ?_
        refine DL.pu 3 (.int .u64 (IntKind.u64.wrap (x3_3 + 1))) rfl (p_assign rfl rfl) ?_
        refine DL.nil ?_
        refine TT.inLoop ?_
        exact TT.weak (ih x2_2 (IntKind.u64.wrap (x3_3 + 1)) y_4 r0_ l_y_4 h259 hk) (Sub.cons rfl (Sub.cons rfl (Sub.cons rfl (Sub.nil _))))
      · replace c258 := Bool.eq_false_iff.mpr c258
        have h260 := ite_false c258 h256
        refine TT.cond_false (x := sub [1, 1, 1, 0, 1, 0, 0, 1, 0, 0, 1, 1, 0, 1, 0] B11) (y := sub [1, 1, 1, 0, 1, 0, 0, 1, 0, 0, 1, 1, 0, 1, 1] B11) rfl c258 ?_
        refine TT.skip ?_
        refine TT.seq (x := sub [1, 1, 1, 0, 1, 0, 0, 1, 0, 0, 1, 1, 1, 0] B11) (y := sub [1, 1, 1, 0, 1, 0, 0, 1, 0, 0, 1, 1, 1, 1] B11) ?_
        refine TT.seq (x := sub [1, 1, 1, 0, 1, 0, 0, 1, 0, 0, 1, 1, 1, 0, 0] B11) (y := sub [1, 1, 1, 0, 1, 0, 0, 1, 0, 0, 1, 1, 1, 0, 1] B11) ?_
        refine TT.region (id := 12) (n := 2) (ops := (opsOf (sub [1, 1, 1, 0, 1, 0, 0, 1, 0, 0, 1, 1, 1, 0, 0] B11))) [(.pure, none), (.pure, none)] rfl ?_
        show DL _ _ _ _ _ _ _ _ _ _ [0, 1] _ _
        refine DL.pu 28 (.int .i64 x2_2) rfl (p_move rfl rfl) ?_
        refine DL.pu 29 (.bool (decide (x2_2 < 8))) rfl (p_lss rfl rfl rfl) ?_
        refine DL.nil ?_
        obtain ⟨j_b1_262, h263, h264⟩ := bind_some h260
        have J265 : j_b1_262.length = 88 → TT Try.prog 11 R 47 w0 I (.code (sub [1, 1, 1, 0, 1, 0, 0, 1, 0, 0, 1, 1, 1, 1] B11) :: .inBlock 1 :: .code (sub [1, 1, 1, 0, 1, 0, 0, 1, 1] B11) :: .inLoop (sub [1, 1, 1, 0, 1, 0, 0] B11) :: .inBlock 0 :: K) [(1, ptr b1 0), (2, .int .i64 x2_2), (3, .int .u64 x3_3)] [(some b1, .cells (enc .u64 j_b1_262) 45 (0, 0))] := by
          intro l_j_b1_262
          refine TT.seq (x := sub [1, 1, 1, 0, 1, 0, 0, 1, 0, 0, 1, 1, 1, 1, 0] B11) (y := sub [1, 1, 1, 0, 1, 0, 0, 1, 0, 0, 1, 1, 1, 1, 1] B11) ?_
          refine TT.regionD (id := 14) (ops := (opsOf (sub [1, 1, 1, 0, 1, 0, 0, 1, 0, 0, 1, 1, 1, 1, 0] B11))) [0, 1, 2, 3, 4, 5, 6, 7] [0, 0, 0, 4, 1, 17, 63, 127] [(.pure, none), (.pure, none), (.pure, none), (.quiet, none), (.pure, none), (.pure, none), (.pure, none), (.store, some 0)] mixed (by kernel_rfl) ?_
          intro w277 hl277 hj277 hz277
          refine DL.pu 37 (ptr b1 0) rfl (p_move rfl rfl) ?_
          refine DL.pu 38 (.int .i64 x2_2) rfl (p_move rfl rfl) ?_
          refine DL.pu 39 (.int .u64 x3_3) rfl (p_move rfl rfl) ?_
          obtain ⟨t278, h279, h280⟩ := bind_some h264
          refine DL.qu 40 (.int .u64 t278) rfl (f_callR rfl rfl (args_val (vs := [.int .u64 x3_3, .bool true]) rfl) (fun w => enter16 _ w) (fun w hc => sha_root.val h279 (M := M) w (hE.ext hc) )) ?_
          refine DL.pu 41 (ptr b1 0) rfl (p_nilCheck rfl rfl) ?_
          refine DL.pu 42 (ptr b1 8) rfl (p_fieldAddr ty_f45_1 rfl rfl) ?_
          obtain ⟨g281, h282⟩ := req_some h280
          obtain ⟨g283, h284⟩ := req_some h282
          refine DL.pu 43 (ptr b1 (8 + x2_2.toNat)) rfl (p_ixO ty_u43 ty_s35 g281 g283 rfl rfl rfl) ?_
          refine DL.put (H' := [(some b1, .cells (enc .u64 (j_b1_262.set (8 + x2_2.toNat) t278)) 45 (0, 0))]) (i := 7) rfl (Wn.none rfl) rfl rfl (f_storeE (j := 0) ty_s35 rfl (lt_natO (off := 8) l_j_b1_262 g281 g283 (by decide)) rfl rfl rfl) (keep_set (j := 0) hj277 rfl rfl rfl) ?_
          refine DL.nil' hl277 ?_
          refine TT.region (id := 15) (n := 3) (ops := (opsOf (sub [1, 1, 1, 0, 1, 0, 0, 1, 0, 0, 1, 1, 1, 1, 1] B11))) [(.pure, none), (.pure, none), (.pure, none)] rfl ?_
          show DL _ _ _ _ _ _ _ _ _ _ [0, 1, 2] _ _
          refine DL.pu 44 (.int .i64 x2_2) rfl (p_move rfl rfl) ?_
          refine DL.pu 45 (.int .i64 (IntKind.i64.wrap (x2_2 + 1))) rfl (p_add rfl rfl rfl) ?_
          refine DL.pu 2 (.int .i64 (IntKind.i64.wrap (x2_2 + 1))) rfl (p_assign rfl rfl) ?_
          refine DL.nil ?_
          refine TT.inBlock ?_
          refine TT.region (id := 5) (n := 3) (ops := (opsOf (sub [1, 1, 1, 0, 1, 0, 0, 1, 1] B11))) [(.pure, none), (.pure, none), (.pure, none)] rfl ?_
          show DL _ _ _ _ _ _ _ _ _ _ [0, 1, 2] _ _
          refine DL.pu 10 (.int .u64 x3_3) rfl (p_move rfl rfl) ?_
          refine DL.pu 11 (.int .u64 (IntKind.u64.wrap (x3_3 + 1))) rfl (p_add rfl rfl rfl) ?_
          refine DL.pu 3 (.int .u64 (IntKind.u64.wrap (x3_3 + 1))) rfl (p_assign rfl rfl) ?_
          refine DL.nil ?_
          refine TT.inLoop ?_
          exact TT.weak (ih (IntKind.i64.wrap (x2_2 + 1)) (IntKind.u64.wrap (x3_3 + 1)) (j_b1_262.set (8 + x2_2.toNat) t278) r0_ (len_set l_j_b1_262) h284 hk) (Sub.cons rfl (Sub.cons rfl (Sub.cons rfl (Sub.nil _))))
        by_cases c261 : (decide (x2_2 < 8)) = true
        · have h267 := ite_true c261 h263
          refine TT.cond_true (x := sub [1, 1, 1, 0, 1, 0, 0, 1, 0, 0, 1, 1, 1, 0, 1, 0] B11) (y := sub [1, 1, 1, 0, 1, 0, 0, 1, 0, 0, 1, 1, 1, 0, 1, 1] B11) rfl c261 ?_
          refine TT.regionD (id := 13) (ops := (opsOf (sub [1, 1, 1, 0, 1, 0, 0, 1, 0, 0, 1, 1, 1, 0, 1, 0] B11))) [0, 1, 2, 3, 4, 5, 6, 7] [0, 0, 0, 4, 1, 17, 63, 127] [(.pure, none), (.pure, none), (.pure, none), (.quiet, none), (.pure, none), (.pure, none), (.pure, none), (.store, some 0)] mixed (by kernel_rfl) ?_
          intro w268 hl268 hj268 hz268
          refine DL.pu 30 (ptr b1 0) rfl (p_move rfl rfl) ?_
          refine DL.pu 31 (.int .i64 x2_2) rfl (p_move rfl rfl) ?_
          refine DL.pu 32 (.int .u64 x3_3) rfl (p_move rfl rfl) ?_
          obtain ⟨t269, h270, h271⟩ := bind_some h267
          refine DL.qu 33 (.int .u64 t269) rfl (f_callR rfl rfl (args_val (vs := [.int .u64 x3_3, .bool false]) rfl) (fun w => enter16 _ w) (fun w hc => sha_root.val h270 (M := M) w (hE.ext hc) )) ?_
          refine DL.pu 34 (ptr b1 0) rfl (p_nilCheck rfl rfl) ?_
          refine DL.pu 35 (ptr b1 0) rfl (p_fieldAddr ty_f45_0 rfl rfl) ?_
          obtain ⟨g272, h273⟩ := req_some h271
          obtain ⟨g274, h275⟩ := req_some h273
          refine DL.pu 36 (ptr b1 (0 + x2_2.toNat)) rfl (p_ixO ty_u42 ty_s35 g272 g274 rfl rfl rfl) ?_
          refine DL.put (H' := [(some b1, .cells (enc .u64 (y_4.set (0 + x2_2.toNat) t269)) 45 (0, 0))]) (i := 7) rfl (Wn.none rfl) rfl rfl (f_storeE (j := 0) ty_s35 rfl (lt_natO (off := 0) l_y_4 g272 g274 (by decide)) rfl rfl rfl) (keep_set (j := 0) hj268 rfl rfl rfl) ?_
          refine DL.nil' hl268 ?_
          obtain rfl := Option.some.inj h275
          exact TT.weak (J265 (len_set l_y_4)) (Sub.cons rfl (Sub.cons rfl (Sub.cons rfl (Sub.nil _))))
        · replace c261 := Bool.eq_false_iff.mpr c261
          have h276 := ite_false c261 h263
          refine TT.cond_false (x := sub [1, 1, 1, 0, 1, 0, 0, 1, 0, 0, 1, 1, 1, 0, 1, 0] B11) (y := sub [1, 1, 1, 0, 1, 0, 0, 1, 0, 0, 1, 1, 1, 0, 1, 1] B11) rfl c261 ?_
          refine TT.skip ?_
          obtain rfl := Option.some.inj h276
          exact TT.weak (J265 l_y_4) (Sub.cons rfl (Sub.cons rfl (Sub.cons rfl (Sub.nil _))))
    · replace c171 := Bool.eq_false_iff.mpr c171
      have h285 := ite_false c171 h
      refine TT.cond_false (x := sub [1, 1, 1, 0, 1, 0, 0, 0, 1, 0] B11) (y := sub [1, 1, 1, 0, 1, 0, 0, 0, 1, 1] B11) rfl c171 ?_
      refine TT.exit rfl ?_
      obtain rfl := Option.some.inj h285
      exact TT.weak (hk l_y_4) (Sub.cons rfl (Sub.nil _))

def sha_all.f : Option ((List Int)) := (sha_all.L0 420 0 2 (List.replicate 88 0)).bind fun z_b1_170 => some z_b1_170
set_option maxRecDepth 20000 in
theorem sha_all.ok {r : List Int} (h : sha_all.f = some r) {M : Mem} (w : World) (hM : Ext M (heapOf w)) : Calls Try.prog 11 #[] w (PostF (G := Nat) (fun g => ptr g 0) (fun g M_ => (r.length = 88) ∧ (M_ g = some (.cells (enc .u64 r) 45 (0, 0)))) M w) := by
  unfold sha_all.f at h
  have hE := Env.start hM
  refine calls_of_TT (N := 47) (S := []) (c := B11) Try.func11 rfl rfl rfl (by simp) ?_
  show TT _ _ _ _ _ _ [.code (sub [] B11)] _ _
  refine TT.seq (x := sub [0] B11) (y := sub [1] B11) ?_
  refine TT.region (id := 0) (n := 1) (ops := (opsOf (sub [0] B11))) [(.pure, none)] rfl ?_
  show DL _ _ _ _ _ _ _ _ _ _ [0] _ _
  refine DL.pu 0 (.pointer none) rfl (p_assign rfl rfl) ?_
  refine DL.nil ?_
  refine TT.seq (x := sub [1, 0] B11) (y := sub [1, 1] B11) ?_
  refine TT.region (id := 1) (n := 3) (ops := (opsOf (sub [1, 0] B11))) [(.pure, none), (.alloc, none), (.pure, none)] rfl ?_
  show DL _ _ _ _ _ _ _ _ _ _ [0, 1, 2] _ _
  refine DL.pu 6 (.agg (enc .u64 (List.replicate 88 0))) rfl (p_build (vs := []) (fun w => by kernel_rfl) rfl rfl) ?_
  refine DL.new (ob := .cells (enc .u64 (List.replicate 88 0)) 45) (mk := fun b => ptr b 0) (i := 1) rfl (Wn.none rfl) rfl rfl rfl (f_box (v := .agg (enc .u64 (List.replicate 88 0))) rfl rfl) ?_
  intro b1 hb1
  refine DL.pu 1 (ptr b1 0) rfl (p_assign rfl rfl) ?_
  refine DL.nil ?_
  refine TT.seq (x := sub [1, 1, 0] B11) (y := sub [1, 1, 1] B11) ?_
  refine TT.region (id := 2) (n := 1) (ops := (opsOf (sub [1, 1, 0] B11))) [(.pure, none)] rfl ?_
  show DL _ _ _ _ _ _ _ _ _ _ [0] _ _
  refine DL.pu 2 (.int .i64 0) rfl (p_assign rfl rfl) ?_
  refine DL.nil ?_
  refine TT.seq (x := sub [1, 1, 1, 0] B11) (y := sub [1, 1, 1, 1] B11) ?_
  refine TT.seq (x := sub [1, 1, 1, 0, 0] B11) (y := sub [1, 1, 1, 0, 1] B11) ?_
  refine TT.region (id := 3) (n := 1) (ops := (opsOf (sub [1, 1, 1, 0, 0] B11))) [(.pure, none)] rfl ?_
  show DL _ _ _ _ _ _ _ _ _ _ [0] _ _
  refine DL.pu 3 (.int .u64 2) rfl (p_assign rfl rfl) ?_
  refine DL.nil ?_
  refine TT.block (c := sub [1, 1, 1, 0, 1, 0] B11) ?_
  refine TT.loop (c := sub [1, 1, 1, 0, 1, 0, 0] B11) ?_
  obtain ⟨z_b1_170, h286, h287⟩ := bind_some h
  refine TT.weak (sha_all.L0_ok b1 hE 420 0 2 (List.replicate 88 0) z_b1_170 (List.length_replicate) h286 (fun l_z_b1_170 => ?_)) (Sub.cons rfl (Sub.cons rfl (Sub.cons rfl (Sub.nil _))))
  refine TT.seq (x := sub [1, 1, 1, 1, 0] B11) (y := sub [1, 1, 1, 1, 1] B11) ?_
  refine TT.region (id := 16) (n := 2) (ops := (opsOf (sub [1, 1, 1, 1, 0] B11))) [(.pure, none), (.pure, none)] rfl ?_
  show DL _ _ _ _ _ _ _ _ _ _ [0, 1] _ _
  refine DL.pu 46 (ptr b1 0) rfl (p_move rfl rfl) ?_
  refine DL.pu 0 (ptr b1 0) rfl (p_assign rfl rfl) ?_
  refine DL.nil ?_
  refine TT.freezeAt (j := 0) hE rfl ?_
  intro M289 I289 hE289 hx289 hxI289 hb289
  have hr_289 : M289 b1 = some (.cells (enc .u64 z_b1_170) 45 (0, 0)) := hb289 _ rfl
  show TT _ _ _ _ _ _ _ _ []
  obtain rfl := Option.some.inj h287
  exact retF (rs := [.tmp 0]) (vs := [ptr b1 0]) b1 hE289 Try.func11 rfl rfl rfl (res_cons (ResV.tmp rfl) res_nil) ⟨l_z_b1_170, hr_289⟩

/-! ### escutcheon/escutcheonref05.times: function 19 -/
noncomputable def B19 : Code := bodyOf Try.f19
def ref05_times.L1 (a0 : List Int) (a1 : List Int) (x6_11 : Int) : Nat → (List Int) → Int → Int → Option (List Int × Int)
  | 0, _, _, _ => none
  | k + 1, y_186, x7_187, x8_188 => if (decide (x8_188 < (a1.length : Int))) = true then (req (0 ≤ x6_11) (req (x6_11 < (a0.length : Int)) (req (0 ≤ x8_188) (req (x8_188 < (a1.length : Int)) (nm (IntKind.u64.wrap ((a0.getD x6_11.toNat 0) * (a1.getD x8_188.toNat 0))) fun t279 => req (0 ≤ (IntKind.i64.wrap (x6_11 + x8_188))) (req ((IntKind.i64.wrap (x6_11 + x8_188)) < (y_186.length : Int)) (nm (IntKind.u64.wrap (t279 + (y_186.getD ((IntKind.i64.wrap (x6_11 + x8_188)).toNat) 0))) fun t286 => nm (Int.tmod (IntKind.u64.wrap (t286 + x7_187)) 4294967296) fun t289 => nm (ishr .u64 (IntKind.u64.wrap (t286 + x7_187)) 32) fun t294 => ref05_times.L1 a0 a1 x6_11 k (y_186.set ((IntKind.i64.wrap (x6_11 + x8_188)).toNat) t289) t294 (IntKind.i64.wrap (x8_188 + 1))))))))) else (some (y_186, x7_187))
set_option maxRecDepth 20000 in
theorem ref05_times.L1_ok (a0 : List Int) (a0_v : Value) (a1 : List Int) (a1_v : Value) (x6_11 : Int) {R : Ending → World → Prop} {w0 : World} {M0 M I : Mem} {K : List Item} (hE : Env w0 M0 M I) (hr_a0 : IntRow M .u64 a0_v a0) (hr_a1 : IntRow M .u64 a1_v a1) :
    ∀ (k : Nat) (y_186 : List Int) (x7_187 : Int) (x8_188 : Int) (y_186_v : Value) (y_186_c : Array Value) (r0_ : List Int) (r1_ : Int) (ho_y_186 : IntOwn .u64 y_186_v y_186_c y_186) (h : ref05_times.L1 a0 a1 x6_11 k y_186 x7_187 x8_188 = some (r0_, r1_)) (hk : ∀ (z_o4_266_v : Value), ∀ (z_o4_266_c : Array Value), IntOwn .u64 z_o4_266_v z_o4_266_c r0_ → TT Try.prog 19 R 63 w0 I K [(0, a0_v), (1, a1_v), (5, z_o4_266_v), (6, .int .i64 x6_11), (7, .int .u64 r1_)] [(Value.ownBlock z_o4_266_v, .cells z_o4_266_c 35 (0, 0))]),
      TT Try.prog 19 R 63 w0 I (.code (sub [1, 1, 0, 1, 0, 0, 1, 0, 0, 1, 0, 1, 0, 0] B19) :: .inLoop (sub [1, 1, 0, 1, 0, 0, 1, 0, 0, 1, 0, 1, 0, 0] B19) :: .inBlock 2 :: K) [(0, a0_v), (1, a1_v), (5, y_186_v), (6, .int .i64 x6_11), (7, .int .u64 x7_187), (8, .int .i64 x8_188)] [(Value.ownBlock y_186_v, .cells y_186_c 35 (0, 0))] := by
  intro k
  induction k with
  | zero => intro y_186 x7_187 x8_188 y_186_v y_186_c r0_ r1_ ho_y_186 h; simp [ref05_times.L1] at h
  | succ k ih =>
    intro y_186 x7_187 x8_188 y_186_v y_186_c r0_ r1_ ho_y_186 h hk
    unfold ref05_times.L1 at h
    refine TT.seq (x := sub [1, 1, 0, 1, 0, 0, 1, 0, 0, 1, 0, 1, 0, 0, 0] B19) (y := sub [1, 1, 0, 1, 0, 0, 1, 0, 0, 1, 0, 1, 0, 0, 1] B19) ?_
    refine TT.seq (x := sub [1, 1, 0, 1, 0, 0, 1, 0, 0, 1, 0, 1, 0, 0, 0, 0] B19) (y := sub [1, 1, 0, 1, 0, 0, 1, 0, 0, 1, 0, 1, 0, 0, 0, 1] B19) ?_
    refine TT.region (id := 7) (n := 4) (ops := (opsOf (sub [1, 1, 0, 1, 0, 0, 1, 0, 0, 1, 0, 1, 0, 0, 0, 0] B19))) [(.pure, none), (.pure, none), (.pure, none), (.pure, none)] rfl ?_
    show DL _ _ _ _ _ _ _ _ _ _ [0, 1, 2, 3] _ _
    refine DL.pu 22 (.int .i64 x8_188) rfl (p_move rfl rfl) ?_
    refine DL.pu 23 (a1_v) rfl (p_move rfl rfl) ?_
    refine DL.pu 24 (.int .i64 (a1.length : Int)) rfl (p_slLen ty_u52 (RowV.sl hr_a1) rfl rfl) ?_
    refine DL.pu 25 (.bool (decide (x8_188 < (a1.length : Int)))) rfl (p_lss rfl rfl rfl) ?_
    refine DL.nil ?_
    by_cases c268 : (decide (x8_188 < (a1.length : Int))) = true
    · have h269 := ite_true c268 h
      refine TT.cond_true (x := sub [1, 1, 0, 1, 0, 0, 1, 0, 0, 1, 0, 1, 0, 0, 0, 1, 0] B19) (y := sub [1, 1, 0, 1, 0, 0, 1, 0, 0, 1, 0, 1, 0, 0, 0, 1, 1] B19) rfl c268 ?_
      refine TT.skip ?_
      refine TT.seq (x := sub [1, 1, 0, 1, 0, 0, 1, 0, 0, 1, 0, 1, 0, 0, 1, 0] B19) (y := sub [1, 1, 0, 1, 0, 0, 1, 0, 0, 1, 0, 1, 0, 0, 1, 1] B19) ?_
      refine TT.block (c := sub [1, 1, 0, 1, 0, 0, 1, 0, 0, 1, 0, 1, 0, 0, 1, 0, 0] B19) ?_
      refine TT.seq (x := sub [1, 1, 0, 1, 0, 0, 1, 0, 0, 1, 0, 1, 0, 0, 1, 0, 0, 0] B19) (y := sub [1, 1, 0, 1, 0, 0, 1, 0, 0, 1, 0, 1, 0, 0, 1, 0, 0, 1] B19) ?_
      refine TT.regionD (id := 9) (ops := (opsOf (sub [1, 1, 0, 1, 0, 0, 1, 0, 0, 1, 0, 1, 0, 0, 1, 0, 0, 0] B19))) [0, 1, 2, 3, 4, 5, 6, 7, 8, 9, 10, 11, 12, 13, 14, 15, 16, 17, 18] [0, 0, 3, 7, 0, 0, 48, 112, 255, 0, 0, 0, 3072, 7680, 15872, 32767, 0, 131071, 262143] [(.pure, none), (.pure, none), (.pure, none), (.pure, none), (.pure, none), (.pure, none), (.pure, none), (.pure, none), (.pure, none), (.pure, none), (.pure, none), (.pure, none), (.pure, none), (.pure, none), (.quiet, none), (.pure, none), (.pure, none), (.pure, none), (.pure, none)] mixed (by kernel_rfl) ?_
      intro w270 hl270 hj270 hz270
      refine DL.pu 28 (a0_v) rfl (p_move rfl rfl) ?_
      refine DL.pu 29 (.int .i64 x6_11) rfl (p_move rfl rfl) ?_
      obtain ⟨g271, h272⟩ := req_some h269
      obtain ⟨g273, h274⟩ := req_some h272
      refine DL.pu 30 (elp a0_v x6_11.toNat) rfl (p_slIx1 ty_u52 ty_s35 (RowV.some hr_a0 g271 g273) g271 g273 rfl rfl rfl) ?_
      refine DL.imm (v := .int .u64 (a0.getD x6_11.toNat 0)) rfl (Wn.none rfl) rfl rfl rfl (i_loadEl (RowV.mono hr_a0 hE.mi) (encl_get .u64 (lt_len g271 g273)) ty_a35 rfl rfl) ?_
      refine DL.pu 32 (a1_v) rfl (p_move rfl rfl) ?_
      refine DL.pu 33 (.int .i64 x8_188) rfl (p_move rfl rfl) ?_
      obtain ⟨g275, h276⟩ := req_some h274
      obtain ⟨g277, h278⟩ := req_some h276
      refine DL.pu 34 (elp a1_v x8_188.toNat) rfl (p_slIx1 ty_u52 ty_s35 (RowV.some hr_a1 g275 g277) g275 g277 rfl rfl rfl) ?_
      refine DL.imm (v := .int .u64 (a1.getD x8_188.toNat 0)) rfl (Wn.none rfl) rfl rfl rfl (i_loadEl (RowV.mono hr_a1 hE.mi) (encl_get .u64 (lt_len g275 g277)) ty_a35 rfl rfl) ?_
      obtain ⟨t279, e280, h281⟩ := nm_some h278
      refine DL.pu 36 (.int .u64 t279) rfl (by rw [e280]; exact p_mul rfl rfl rfl) ?_
      refine DL.pu 37 (y_186_v) rfl (p_move rfl rfl) ?_
      refine DL.pu 38 (.int .i64 x6_11) rfl (p_move rfl rfl) ?_
      refine DL.pu 39 (.int .i64 x8_188) rfl (p_move rfl rfl) ?_
      refine DL.pu 40 (.int .i64 (IntKind.i64.wrap (x6_11 + x8_188))) rfl (p_add rfl rfl rfl) ?_
      obtain ⟨g282, h283⟩ := req_some h281
      obtain ⟨g284, h285⟩ := req_some h283
      refine DL.pu 41 (elp y_186_v ((IntKind.i64.wrap (x6_11 + x8_188)).toNat)) rfl (p_slIx1 ty_u52 ty_s35 (OwnV.some ho_y_186 g282 g284) g282 g284 rfl rfl rfl) ?_
      refine DL.qu 42 (.int .u64 (y_186.getD ((IntKind.i64.wrap (x6_11 + x8_188)).toNat) 0)) rfl (f_loadEl (i := 0) rfl ho_y_186 (encl_get .u64 (lt_len g282 g284)) ty_a35 rfl rfl) ?_
      obtain ⟨t286, e287, h288⟩ := nm_some h285
      refine DL.pu 43 (.int .u64 t286) rfl (by rw [e287]; exact p_add rfl rfl rfl) ?_
      refine DL.pu 44 (.int .u64 x7_187) rfl (p_move rfl rfl) ?_
      refine DL.pu 45 (.int .u64 (IntKind.u64.wrap (t286 + x7_187))) rfl (p_add rfl rfl rfl) ?_
      refine DL.pu 9 (.int .u64 (IntKind.u64.wrap (t286 + x7_187))) rfl (p_assign rfl rfl) ?_
      refine DL.nil' hl270 ?_
      refine TT.seq (x := sub [1, 1, 0, 1, 0, 0, 1, 0, 0, 1, 0, 1, 0, 0, 1, 0, 0, 1, 0] B19) (y := sub [1, 1, 0, 1, 0, 0, 1, 0, 0, 1, 0, 1, 0, 0, 1, 0, 0, 1, 1] B19) ?_
      refine TT.region (id := 10) (n := 8) (ops := (opsOf (sub [1, 1, 0, 1, 0, 0, 1, 0, 0, 1, 0, 1, 0, 0, 1, 0, 0, 1, 0] B19))) [(.pure, none), (.pure, none), (.pure, none), (.pure, none), (.pure, none), (.pure, none), (.pure, none), (.store, none)] rfl ?_
      show DL _ _ _ _ _ _ _ _ _ _ [0, 1, 2, 3, 4, 5, 6, 7] _ _
      refine DL.pu 46 (y_186_v) rfl (p_move rfl rfl) ?_
      refine DL.pu 47 (.int .i64 x6_11) rfl (p_move rfl rfl) ?_
      refine DL.pu 48 (.int .i64 x8_188) rfl (p_move rfl rfl) ?_
      refine DL.pu 49 (.int .i64 (IntKind.i64.wrap (x6_11 + x8_188))) rfl (p_add rfl rfl rfl) ?_
      refine DL.pu 50 (.int .u64 (IntKind.u64.wrap (t286 + x7_187))) rfl (p_move rfl rfl) ?_
      obtain ⟨t289, e290, h291⟩ := nm_some h288
      refine DL.pu 51 (.int .u64 t289) rfl (by rw [e290]; exact p_rem (by decide) rfl rfl rfl) ?_
      refine DL.pu 52 (elp y_186_v ((IntKind.i64.wrap (x6_11 + x8_188)).toNat)) rfl (p_slIx1 ty_u52 ty_s35 (OwnV.some ho_y_186 g282 g284) g282 g284 rfl rfl rfl) ?_
      obtain ⟨c292, c292_e⟩ : ∃ c, c = y_186_c.setIfInBounds ((IntKind.i64.wrap (x6_11 + x8_188)).toNat) (.int .u64 t289) := ⟨_, rfl⟩
      have ho_293 : IntOwn .u64 y_186_v c292 (y_186.set ((IntKind.i64.wrap (x6_11 + x8_188)).toNat) t289) := by rw [c292_e]; exact IntOwn.set ho_y_186 (lt_len g282 g284) t289
      refine DL.put (H' := [(Value.ownBlock y_186_v, .cells c292 35 (0, 0))]) (i := 7) rfl (Wn.none rfl) rfl rfl (by rw [c292_e]; exact f_storeEl (i := 0) ty_s35 rfl ho_y_186 (lt_len1 g282 g284) rfl trivial rfl rfl rfl) (keep_none rfl) ?_
      refine DL.nil ?_
      refine TT.region (id := 11) (n := 3) (ops := (opsOf (sub [1, 1, 0, 1, 0, 0, 1, 0, 0, 1, 0, 1, 0, 0, 1, 0, 0, 1, 1] B19))) [(.pure, none), (.pure, none), (.pure, none)] rfl ?_
      show DL _ _ _ _ _ _ _ _ _ _ [0, 1, 2] _ _
      refine DL.pu 53 (.int .u64 (IntKind.u64.wrap (t286 + x7_187))) rfl (p_move rfl rfl) ?_
      obtain ⟨t294, e295, h296⟩ := nm_some h291
      refine DL.pu 54 (.int .u64 t294) rfl (by rw [e295]; exact p_shr (by decide) rfl rfl rfl) ?_
      refine DL.pu 7 (.int .u64 t294) rfl (p_assign rfl rfl) ?_
      refine DL.nil ?_
      refine TT.inBlock ?_
      refine TT.region (id := 8) (n := 3) (ops := (opsOf (sub [1, 1, 0, 1, 0, 0, 1, 0, 0, 1, 0, 1, 0, 0, 1, 1] B19))) [(.pure, none), (.pure, none), (.pure, none)] rfl ?_
      show DL _ _ _ _ _ _ _ _ _ _ [0, 1, 2] _ _
      refine DL.pu 26 (.int .i64 x8_188) rfl (p_move rfl rfl) ?_
      refine DL.pu 27 (.int .i64 (IntKind.i64.wrap (x8_188 + 1))) rfl (p_add rfl rfl rfl) ?_
      refine DL.pu 8 (.int .i64 (IntKind.i64.wrap (x8_188 + 1))) rfl (p_assign rfl rfl) ?_
      refine DL.nil ?_
      refine TT.inLoop ?_
      exact TT.weak (ih (y_186.set ((IntKind.i64.wrap (x6_11 + x8_188)).toNat) t289) t294 (IntKind.i64.wrap (x8_188 + 1)) y_186_v c292 r0_ r1_ ho_293 h296 hk) (Sub.cons rfl (Sub.cons rfl (Sub.cons rfl (Sub.cons rfl (Sub.cons rfl (Sub.cons rfl (Sub.nil _)))))))
    · replace c268 := Bool.eq_false_iff.mpr c268
      have h297 := ite_false c268 h
      refine TT.cond_false (x := sub [1, 1, 0, 1, 0, 0, 1, 0, 0, 1, 0, 1, 0, 0, 0, 1, 0] B19) (y := sub [1, 1, 0, 1, 0, 0, 1, 0, 0, 1, 0, 1, 0, 0, 0, 1, 1] B19) rfl c268 ?_
      refine TT.exit rfl ?_
      simp only [Option.some.injEq, Prod.mk.injEq] at h297
      obtain ⟨rfl, rfl⟩ := h297
      exact TT.weak (hk y_186_v y_186_c ho_y_186) (Sub.cons rfl (Sub.cons rfl (Sub.cons rfl (Sub.cons rfl (Sub.cons rfl (Sub.nil _))))))

def ref05_times.L0 (a0 : List Int) (a1 : List Int) : Nat → (List Int) → Int → Option (List Int)
  | 0, _, _ => none
  | k + 1, y_10, x6_11 => if (decide (x6_11 < (a0.length : Int))) = true then ((ref05_times.L1 a0 a1 x6_11 ((a1.length : Int).toNat + 1) y_10 0 0).bind fun (z_o4_266, z7_267) => req (0 ≤ (IntKind.i64.wrap (x6_11 + (a1.length : Int)))) (req ((IntKind.i64.wrap (x6_11 + (a1.length : Int))) < (z_o4_266.length : Int)) (ref05_times.L0 a0 a1 k (z_o4_266.set ((IntKind.i64.wrap (x6_11 + (a1.length : Int))).toNat) z7_267) (IntKind.i64.wrap (x6_11 + 1))))) else (some y_10)
set_option maxRecDepth 20000 in
theorem ref05_times.L0_ok (a0 : List Int) (a0_v : Value) (a1 : List Int) (a1_v : Value) {R : Ending → World → Prop} {w0 : World} {M0 M I : Mem} {K : List Item} (hE : Env w0 M0 M I) (hr_a0 : IntRow M .u64 a0_v a0) (hr_a1 : IntRow M .u64 a1_v a1) :
    ∀ (k : Nat) (y_10 : List Int) (x6_11 : Int) (y_10_v : Value) (y_10_c : Array Value) (r0_ : List Int) (ho_y_10 : IntOwn .u64 y_10_v y_10_c y_10) (h : ref05_times.L0 a0 a1 k y_10 x6_11 = some r0_) (hk : ∀ (z_o4_183_v : Value), ∀ (z_o4_183_c : Array Value), IntOwn .u64 z_o4_183_v z_o4_183_c r0_ → TT Try.prog 19 R 63 w0 I K [(5, z_o4_183_v)] [(Value.ownBlock z_o4_183_v, .cells z_o4_183_c 35 (0, 0))]),
      TT Try.prog 19 R 63 w0 I (.code (sub [1, 1, 0, 1, 0, 0] B19) :: .inLoop (sub [1, 1, 0, 1, 0, 0] B19) :: .inBlock 0 :: K) [(0, a0_v), (1, a1_v), (5, y_10_v), (6, .int .i64 x6_11)] [(Value.ownBlock y_10_v, .cells y_10_c 35 (0, 0))] := by
  intro k
  induction k with
  | zero => intro y_10 x6_11 y_10_v y_10_c r0_ ho_y_10 h; simp [ref05_times.L0] at h
  | succ k ih =>
    intro y_10 x6_11 y_10_v y_10_c r0_ ho_y_10 h hk
    unfold ref05_times.L0 at h
    refine TT.seq (x := sub [1, 1, 0, 1, 0, 0, 0] B19) (y := sub [1, 1, 0, 1, 0, 0, 1] B19) ?_
    refine TT.seq (x := sub [1, 1, 0, 1, 0, 0, 0, 0] B19) (y := sub [1, 1, 0, 1, 0, 0, 0, 1] B19) ?_
    refine TT.region (id := 3) (n := 4) (ops := (opsOf (sub [1, 1, 0, 1, 0, 0, 0, 0] B19))) [(.pure, none), (.pure, none), (.pure, none), (.pure, none)] rfl ?_
    show DL _ _ _ _ _ _ _ _ _ _ [0, 1, 2, 3] _ _
    refine DL.pu 16 (.int .i64 x6_11) rfl (p_move rfl rfl) ?_
    refine DL.pu 17 (a0_v) rfl (p_move rfl rfl) ?_
    refine DL.pu 18 (.int .i64 (a0.length : Int)) rfl (p_slLen ty_u52 (RowV.sl hr_a0) rfl rfl) ?_
    refine DL.pu 19 (.bool (decide (x6_11 < (a0.length : Int)))) rfl (p_lss rfl rfl rfl) ?_
    refine DL.nil ?_
    by_cases c184 : (decide (x6_11 < (a0.length : Int))) = true
    · have h185 := ite_true c184 h
      refine TT.cond_true (x := sub [1, 1, 0, 1, 0, 0, 0, 1, 0] B19) (y := sub [1, 1, 0, 1, 0, 0, 0, 1, 1] B19) rfl c184 ?_
      refine TT.skip ?_
      refine TT.seq (x := sub [1, 1, 0, 1, 0, 0, 1, 0] B19) (y := sub [1, 1, 0, 1, 0, 0, 1, 1] B19) ?_
      refine TT.block (c := sub [1, 1, 0, 1, 0, 0, 1, 0, 0] B19) ?_
      refine TT.seq (x := sub [1, 1, 0, 1, 0, 0, 1, 0, 0, 0] B19) (y := sub [1, 1, 0, 1, 0, 0, 1, 0, 0, 1] B19) ?_
      refine TT.region (id := 5) (n := 1) (ops := (opsOf (sub [1, 1, 0, 1, 0, 0, 1, 0, 0, 0] B19))) [(.pure, none)] rfl ?_
      show DL _ _ _ _ _ _ _ _ _ _ [0] _ _
      refine DL.pu 7 (.int .u64 0) rfl (p_assign rfl rfl) ?_
      refine DL.nil ?_
      refine TT.seq (x := sub [1, 1, 0, 1, 0, 0, 1, 0, 0, 1, 0] B19) (y := sub [1, 1, 0, 1, 0, 0, 1, 0, 0, 1, 1] B19) ?_
      refine TT.seq (x := sub [1, 1, 0, 1, 0, 0, 1, 0, 0, 1, 0, 0] B19) (y := sub [1, 1, 0, 1, 0, 0, 1, 0, 0, 1, 0, 1] B19) ?_
      refine TT.region (id := 6) (n := 1) (ops := (opsOf (sub [1, 1, 0, 1, 0, 0, 1, 0, 0, 1, 0, 0] B19))) [(.pure, none)] rfl ?_
      show DL _ _ _ _ _ _ _ _ _ _ [0] _ _
      refine DL.pu 8 (.int .i64 0) rfl (p_assign rfl rfl) ?_
      refine DL.nil ?_
      refine TT.block (c := sub [1, 1, 0, 1, 0, 0, 1, 0, 0, 1, 0, 1, 0] B19) ?_
      refine TT.loop (c := sub [1, 1, 0, 1, 0, 0, 1, 0, 0, 1, 0, 1, 0, 0] B19) ?_
      obtain ⟨⟨z_o4_266, z7_267⟩, h298, h299⟩ := bind_some h185
      refine TT.weak (ref05_times.L1_ok a0 a0_v a1 a1_v x6_11 hE hr_a0 hr_a1 ((a1.length : Int).toNat + 1) y_10 0 0 y_10_v y_10_c z_o4_266 z7_267 ho_y_10 h298 (fun z_o4_266_v z_o4_266_c ho_z_o4_266 => ?_)) (Sub.cons rfl (Sub.cons rfl (Sub.cons rfl (Sub.cons rfl (Sub.cons rfl (Sub.cons rfl (Sub.nil _)))))))
      refine TT.region (id := 12) (n := 8) (ops := (opsOf (sub [1, 1, 0, 1, 0, 0, 1, 0, 0, 1, 1] B19))) [(.pure, none), (.pure, none), (.pure, none), (.pure, none), (.pure, none), (.pure, none), (.pure, none), (.store, none)] rfl ?_
      show DL _ _ _ _ _ _ _ _ _ _ [0, 1, 2, 3, 4, 5, 6, 7] _ _
      refine DL.pu 55 (z_o4_266_v) rfl (p_move rfl rfl) ?_
      refine DL.pu 56 (.int .i64 x6_11) rfl (p_move rfl rfl) ?_
      refine DL.pu 57 (a1_v) rfl (p_move rfl rfl) ?_
      refine DL.pu 58 (.int .i64 (a1.length : Int)) rfl (p_slLen ty_u52 (RowV.sl hr_a1) rfl rfl) ?_
      refine DL.pu 59 (.int .i64 (IntKind.i64.wrap (x6_11 + (a1.length : Int)))) rfl (p_add rfl rfl rfl) ?_
      refine DL.pu 60 (.int .u64 z7_267) rfl (p_move rfl rfl) ?_
      obtain ⟨g301, h302⟩ := req_some h299
      obtain ⟨g303, h304⟩ := req_some h302
      refine DL.pu 61 (elp z_o4_266_v ((IntKind.i64.wrap (x6_11 + (a1.length : Int))).toNat)) rfl (p_slIx1 ty_u52 ty_s35 (OwnV.some ho_z_o4_266 g301 g303) g301 g303 rfl rfl rfl) ?_
      obtain ⟨c305, c305_e⟩ : ∃ c, c = z_o4_266_c.setIfInBounds ((IntKind.i64.wrap (x6_11 + (a1.length : Int))).toNat) (.int .u64 z7_267) := ⟨_, rfl⟩
      have ho_306 : IntOwn .u64 z_o4_266_v c305 (z_o4_266.set ((IntKind.i64.wrap (x6_11 + (a1.length : Int))).toNat) z7_267) := by rw [c305_e]; exact IntOwn.set ho_z_o4_266 (lt_len g301 g303) z7_267
      refine DL.put (H' := [(Value.ownBlock z_o4_266_v, .cells c305 35 (0, 0))]) (i := 7) rfl (Wn.none rfl) rfl rfl (by rw [c305_e]; exact f_storeEl (i := 0) ty_s35 rfl ho_z_o4_266 (lt_len1 g301 g303) rfl trivial rfl rfl rfl) (keep_none rfl) ?_
      refine DL.nil ?_
      refine TT.inBlock ?_
      refine TT.region (id := 4) (n := 3) (ops := (opsOf (sub [1, 1, 0, 1, 0, 0, 1, 1] B19))) [(.pure, none), (.pure, none), (.pure, none)] rfl ?_
      show DL _ _ _ _ _ _ _ _ _ _ [0, 1, 2] _ _
      refine DL.pu 20 (.int .i64 x6_11) rfl (p_move rfl rfl) ?_
      refine DL.pu 21 (.int .i64 (IntKind.i64.wrap (x6_11 + 1))) rfl (p_add rfl rfl rfl) ?_
      refine DL.pu 6 (.int .i64 (IntKind.i64.wrap (x6_11 + 1))) rfl (p_assign rfl rfl) ?_
      refine DL.nil ?_
      refine TT.inLoop ?_
      exact TT.weak (ih (z_o4_266.set ((IntKind.i64.wrap (x6_11 + (a1.length : Int))).toNat) z7_267) (IntKind.i64.wrap (x6_11 + 1)) z_o4_266_v c305 r0_ ho_306 h304 hk) (Sub.cons rfl (Sub.cons rfl (Sub.cons rfl (Sub.cons rfl (Sub.nil _)))))
    · replace c184 := Bool.eq_false_iff.mpr c184
      have h307 := ite_false c184 h
      refine TT.cond_false (x := sub [1, 1, 0, 1, 0, 0, 0, 1, 0] B19) (y := sub [1, 1, 0, 1, 0, 0, 0, 1, 1] B19) rfl c184 ?_
      refine TT.exit rfl ?_
      obtain rfl := Option.some.inj h307
      exact TT.weak (hk y_10_v y_10_c ho_y_10) (Sub.cons rfl (Sub.nil _))

def ref05_times.f (a0 : List Int) (a1 : List Int) : Option ((List Int)) := nm (IntKind.i64.wrap ((a0.length : Int) + (a1.length : Int))) fun t1 => req (0 ≤ t1) (req (t1 ≤ 1099511627776) ((ref05_times.L0 a0 a1 ((a0.length : Int).toNat + 1) (List.replicate t1.toNat (0 : Int)) 0).bind fun z_o4_183 => some z_o4_183))
set_option maxRecDepth 20000 in
theorem ref05_times.ok {a0 : List Int} {a1 : List Int} {a0_v : Value} {a1_v : Value} {r : List Int} (h : ref05_times.f a0 a1 = some r) {M : Mem} (w : World) (hM : Ext M (heapOf w)) (hr_a0 : IntRow M .u64 a0_v a0) (hr_a1 : IntRow M .u64 a1_v a1) : Calls Try.prog 19 #[a0_v, a1_v] w (PostOwn id .u64 35 r w) := by
  unfold ref05_times.f at h
  have hE := Env.start hM
  refine calls_of_TT (N := 63) (S := [(0, a0_v), (1, a1_v)]) (c := B19) Try.func19 rfl rfl rfl (by simp) ?_
  show TT _ _ _ _ _ _ [.code (sub [] B19)] _ _
  refine TT.seq (x := sub [0] B19) (y := sub [1] B19) ?_
  refine TT.region (id := 0) (n := 1) (ops := (opsOf (sub [0] B19))) [(.pure, none)] rfl ?_
  show DL _ _ _ _ _ _ _ _ _ _ [0] _ _
  refine DL.pu 4 (.slice none 0 0) rfl (p_assign rfl rfl) ?_
  refine DL.nil ?_
  refine TT.seq (x := sub [1, 0] B19) (y := sub [1, 1] B19) ?_
  refine TT.region (id := 1) (n := 7) (ops := (opsOf (sub [1, 0] B19))) [(.pure, none), (.pure, none), (.pure, none), (.pure, none), (.pure, none), (.alloc, none), (.pure, none)] rfl ?_
  show DL _ _ _ _ _ _ _ _ _ _ [0, 1, 2, 3, 4, 5, 6] _ _
  refine DL.pu 10 (a0_v) rfl (p_move rfl rfl) ?_
  refine DL.pu 11 (.int .i64 (a0.length : Int)) rfl (p_slLen ty_u52 (RowV.sl hr_a0) rfl rfl) ?_
  refine DL.pu 12 (a1_v) rfl (p_move rfl rfl) ?_
  refine DL.pu 13 (.int .i64 (a1.length : Int)) rfl (p_slLen ty_u52 (RowV.sl hr_a1) rfl rfl) ?_
  obtain ⟨t1, e2, h3⟩ := nm_some h
  refine DL.pu 14 (.int .i64 t1) rfl (by rw [e2]; exact p_add rfl rfl rfl) ?_
  obtain ⟨g6, h7⟩ := req_some h3
  obtain ⟨g8, h9⟩ := req_some h7
  refine DL.newSl (zs := List.replicate t1.toNat (0 : Int)) (n := t1.toNat) List.length_replicate (make_le g8) (i := 5) rfl (Wn.none rfl) rfl rfl rfl (f_makeN elem52 g6 g8 (by decide) rfl rfl rfl) ?_
  intro s5_v s5_c ho_s5
  refine DL.pu 5 (s5_v) rfl (p_assign rfl rfl) ?_
  refine DL.nil ?_
  refine TT.seq (x := sub [1, 1, 0] B19) (y := sub [1, 1, 1] B19) ?_
  refine TT.seq (x := sub [1, 1, 0, 0] B19) (y := sub [1, 1, 0, 1] B19) ?_
  refine TT.region (id := 2) (n := 1) (ops := (opsOf (sub [1, 1, 0, 0] B19))) [(.pure, none)] rfl ?_
  show DL _ _ _ _ _ _ _ _ _ _ [0] _ _
  refine DL.pu 6 (.int .i64 0) rfl (p_assign rfl rfl) ?_
  refine DL.nil ?_
  refine TT.block (c := sub [1, 1, 0, 1, 0] B19) ?_
  refine TT.loop (c := sub [1, 1, 0, 1, 0, 0] B19) ?_
  obtain ⟨z_o4_183, h308, h309⟩ := bind_some h9
  refine TT.weak (ref05_times.L0_ok a0 a0_v a1 a1_v hE hr_a0 hr_a1 ((a0.length : Int).toNat + 1) (List.replicate t1.toNat (0 : Int)) 0 s5_v s5_c z_o4_183 ho_s5 h308 (fun z_o4_183_v z_o4_183_c ho_z_o4_183 => ?_)) (Sub.cons rfl (Sub.cons rfl (Sub.cons rfl (Sub.cons rfl (Sub.nil _)))))
  refine TT.seq (x := sub [1, 1, 1, 0] B19) (y := sub [1, 1, 1, 1] B19) ?_
  refine TT.region (id := 13) (n := 2) (ops := (opsOf (sub [1, 1, 1, 0] B19))) [(.pure, none), (.pure, none)] rfl ?_
  show DL _ _ _ _ _ _ _ _ _ _ [0, 1] _ _
  refine DL.pu 62 (z_o4_183_v) rfl (p_move rfl rfl) ?_
  refine DL.pu 4 (z_o4_183_v) rfl (p_assign rfl rfl) ?_
  refine DL.nil ?_
  obtain rfl := Option.some.inj h309
  exact retOwnE (j := 0) hE.base Try.func19 rfl rfl rfl ho_z_o4_183

/-! ### escutcheon/escutcheonref05.most: function 20 -/
noncomputable def B20 : Code := bodyOf Try.f20
def ref05_most.L0 (a0 : List Int) (a1 : List Int) : Nat → Int → Option ((Unit) ⊕ (Bool))
  | 0, _ => none
  | k + 1, x5_4 => if (decide (0 ≤ x5_4)) = true then ((if (decide (x5_4 < (a0.length : Int))) = true then (req (0 ≤ x5_4) (req (x5_4 < (a0.length : Int)) (some (a0.getD x5_4.toNat 0)))) else (some 0)).bind fun j6_88 => (if (decide (x5_4 < (a1.length : Int))) = true then (req (0 ≤ x5_4) (req (x5_4 < (a1.length : Int)) (some (a1.getD x5_4.toNat 0)))) else (some 0)).bind fun j7_100 => if (j6_88 != j7_100) = true then (some (.inr (decide (j6_88 < j7_100)))) else (ref05_most.L0 a0 a1 k (IntKind.i64.wrap (x5_4 - 1)))) else (some (.inl ()))
set_option maxRecDepth 20000 in
theorem ref05_most.L0_ok (a0 : List Int) (a0_v : Value) (a1 : List Int) (a1_v : Value) {r : Bool}  {w0 : World} {M0 M I : Mem} {K : List Item} (hE : Env w0 M0 M I) (hr_a0 : IntRow M .u64 a0_v a0) (hr_a1 : IntRow M .u64 a1_v a1) :
    ∀ (k : Nat) (x5_4 : Int) (q : (Unit) ⊕ (Bool)) (h : ref05_most.L0 a0 a1 k x5_4 = some q) (hk : match (generalizing := false) q with | .inl () => (TT Try.prog 20 (Post (fun u => u = .bool r) w0) 39 w0 I K [] []) | .inr rq => rq = r),
      TT Try.prog 20 (Post (fun u => u = .bool r) w0) 39 w0 I (.code (sub [1, 0, 1, 0, 0] B20) :: .inLoop (sub [1, 0, 1, 0, 0] B20) :: .inBlock 0 :: K) [(0, a0_v), (1, a1_v), (5, .int .i64 x5_4)] [] := by
  intro k
  induction k with
  | zero => intro x5_4 q h; simp [ref05_most.L0] at h
  | succ k ih =>
    intro x5_4 q h hk
    unfold ref05_most.L0 at h
    refine TT.seq (x := sub [1, 0, 1, 0, 0, 0] B20) (y := sub [1, 0, 1, 0, 0, 1] B20) ?_
    refine TT.seq (x := sub [1, 0, 1, 0, 0, 0, 0] B20) (y := sub [1, 0, 1, 0, 0, 0, 1] B20) ?_
    refine TT.region (id := 2) (n := 2) (ops := (opsOf (sub [1, 0, 1, 0, 0, 0, 0] B20))) [(.pure, none), (.pure, none)] rfl ?_
    show DL _ _ _ _ _ _ _ _ _ _ [0, 1] _ _
    refine DL.pu 13 (.int .i64 x5_4) rfl (p_move rfl rfl) ?_
    refine DL.pu 14 (.bool (decide (0 ≤ x5_4))) rfl (p_geq rfl rfl rfl) ?_
    refine DL.nil ?_
    by_cases c85 : (decide (0 ≤ x5_4)) = true
    · have h86 := ite_true c85 h
      refine TT.cond_true (x := sub [1, 0, 1, 0, 0, 0, 1, 0] B20) (y := sub [1, 0, 1, 0, 0, 0, 1, 1] B20) rfl c85 ?_
      refine TT.skip ?_
      refine TT.seq (x := sub [1, 0, 1, 0, 0, 1, 0] B20) (y := sub [1, 0, 1, 0, 0, 1, 1] B20) ?_
      refine TT.block (c := sub [1, 0, 1, 0, 0, 1, 0, 0] B20) ?_
      refine TT.seq (x := sub [1, 0, 1, 0, 0, 1, 0, 0, 0] B20) (y := sub [1, 0, 1, 0, 0, 1, 0, 0, 1] B20) ?_
      refine TT.region (id := 4) (n := 2) (ops := (opsOf (sub [1, 0, 1, 0, 0, 1, 0, 0, 0] B20))) [(.pure, none), (.pure, none)] rfl ?_
      show DL _ _ _ _ _ _ _ _ _ _ [0, 1] _ _
      refine DL.pu 6 (.int .u64 0) rfl (p_assign rfl rfl) ?_
      refine DL.pu 7 (.int .u64 0) rfl (p_assign rfl rfl) ?_
      refine DL.nil ?_
      refine TT.seq (x := sub [1, 0, 1, 0, 0, 1, 0, 0, 1, 0] B20) (y := sub [1, 0, 1, 0, 0, 1, 0, 0, 1, 1] B20) ?_
      refine TT.seq (x := sub [1, 0, 1, 0, 0, 1, 0, 0, 1, 0, 0] B20) (y := sub [1, 0, 1, 0, 0, 1, 0, 0, 1, 0, 1] B20) ?_
      refine TT.region (id := 5) (n := 4) (ops := (opsOf (sub [1, 0, 1, 0, 0, 1, 0, 0, 1, 0, 0] B20))) [(.pure, none), (.pure, none), (.pure, none), (.pure, none)] rfl ?_
      show DL _ _ _ _ _ _ _ _ _ _ [0, 1, 2, 3] _ _
      refine DL.pu 17 (.int .i64 x5_4) rfl (p_move rfl rfl) ?_
      refine DL.pu 18 (a0_v) rfl (p_move rfl rfl) ?_
      refine DL.pu 19 (.int .i64 (a0.length : Int)) rfl (p_slLen ty_u52 (RowV.sl hr_a0) rfl rfl) ?_
      refine DL.pu 20 (.bool (decide (x5_4 < (a0.length : Int)))) rfl (p_lss rfl rfl rfl) ?_
      refine DL.nil ?_
      obtain ⟨j6_88, h89, h90⟩ := bind_some h86
      have J91 : TT Try.prog 20 (Post (fun u => u = .bool r) w0) 39 w0 I (.code (sub [1, 0, 1, 0, 0, 1, 0, 0, 1, 1] B20) :: .inBlock 1 :: .code (sub [1, 0, 1, 0, 0, 1, 1] B20) :: .inLoop (sub [1, 0, 1, 0, 0] B20) :: .inBlock 0 :: K) [(0, a0_v), (1, a1_v), (5, .int .i64 x5_4), (6, .int .u64 j6_88), (7, .int .u64 0)] [] := by
        refine TT.seq (x := sub [1, 0, 1, 0, 0, 1, 0, 0, 1, 1, 0] B20) (y := sub [1, 0, 1, 0, 0, 1, 0, 0, 1, 1, 1] B20) ?_
        refine TT.seq (x := sub [1, 0, 1, 0, 0, 1, 0, 0, 1, 1, 0, 0] B20) (y := sub [1, 0, 1, 0, 0, 1, 0, 0, 1, 1, 0, 1] B20) ?_
        refine TT.region (id := 7) (n := 4) (ops := (opsOf (sub [1, 0, 1, 0, 0, 1, 0, 0, 1, 1, 0, 0] B20))) [(.pure, none), (.pure, none), (.pure, none), (.pure, none)] rfl ?_
        show DL _ _ _ _ _ _ _ _ _ _ [0, 1, 2, 3] _ _
        refine DL.pu 25 (.int .i64 x5_4) rfl (p_move rfl rfl) ?_
        refine DL.pu 26 (a1_v) rfl (p_move rfl rfl) ?_
        refine DL.pu 27 (.int .i64 (a1.length : Int)) rfl (p_slLen ty_u52 (RowV.sl hr_a1) rfl rfl) ?_
        refine DL.pu 28 (.bool (decide (x5_4 < (a1.length : Int)))) rfl (p_lss rfl rfl rfl) ?_
        refine DL.nil ?_
        obtain ⟨j7_100, h101, h102⟩ := bind_some h90
        have J103 : TT Try.prog 20 (Post (fun u => u = .bool r) w0) 39 w0 I (.code (sub [1, 0, 1, 0, 0, 1, 0, 0, 1, 1, 1] B20) :: .inBlock 1 :: .code (sub [1, 0, 1, 0, 0, 1, 1] B20) :: .inLoop (sub [1, 0, 1, 0, 0] B20) :: .inBlock 0 :: K) [(0, a0_v), (1, a1_v), (5, .int .i64 x5_4), (6, .int .u64 j6_88), (7, .int .u64 j7_100)] [] := by
          refine TT.seq (x := sub [1, 0, 1, 0, 0, 1, 0, 0, 1, 1, 1, 0] B20) (y := sub [1, 0, 1, 0, 0, 1, 0, 0, 1, 1, 1, 1] B20) ?_
          refine TT.region (id := 9) (n := 3) (ops := (opsOf (sub [1, 0, 1, 0, 0, 1, 0, 0, 1, 1, 1, 0] B20))) [(.pure, none), (.pure, none), (.pure, none)] rfl ?_
          show DL _ _ _ _ _ _ _ _ _ _ [0, 1, 2] _ _
          refine DL.pu 33 (.int .u64 j6_88) rfl (p_move rfl rfl) ?_
          refine DL.pu 34 (.int .u64 j7_100) rfl (p_move rfl rfl) ?_
          refine DL.pu 35 (.bool (j6_88 != j7_100)) rfl (p_neq rfl rfl rfl) ?_
          refine DL.nil ?_
          by_cases c111 : (j6_88 != j7_100) = true
          · have h112 := ite_true c111 h102
            refine TT.cond_true (x := sub [1, 0, 1, 0, 0, 1, 0, 0, 1, 1, 1, 1, 0] B20) (y := sub [1, 0, 1, 0, 0, 1, 0, 0, 1, 1, 1, 1, 1] B20) rfl c111 ?_
            refine TT.seq (x := sub [1, 0, 1, 0, 0, 1, 0, 0, 1, 1, 1, 1, 0, 0] B20) (y := sub [1, 0, 1, 0, 0, 1, 0, 0, 1, 1, 1, 1, 0, 1] B20) ?_
            refine TT.region (id := 10) (n := 4) (ops := (opsOf (sub [1, 0, 1, 0, 0, 1, 0, 0, 1, 1, 1, 1, 0, 0] B20))) [(.pure, none), (.pure, none), (.pure, none), (.pure, none)] rfl ?_
            show DL _ _ _ _ _ _ _ _ _ _ [0, 1, 2, 3] _ _
            refine DL.pu 36 (.int .u64 j6_88) rfl (p_move rfl rfl) ?_
            refine DL.pu 37 (.int .u64 j7_100) rfl (p_move rfl rfl) ?_
            refine DL.pu 38 (.bool (decide (j6_88 < j7_100))) rfl (p_lss rfl rfl rfl) ?_
            refine DL.pu 4 (.bool (decide (j6_88 < j7_100))) rfl (p_assign rfl rfl) ?_
            refine DL.nil ?_
            obtain rfl := Option.some.inj h112
            have k113 : (decide (j6_88 < j7_100)) = r := hk
            subst k113
            exact retnE (rs := [.tmp 4]) (vs := [.bool (decide (j6_88 < j7_100))]) hE.base Try.func20 rfl rfl rfl (res_cons (ResV.tmp rfl) res_nil) rfl
          · replace c111 := Bool.eq_false_iff.mpr c111
            have h114 := ite_false c111 h102
            refine TT.cond_false (x := sub [1, 0, 1, 0, 0, 1, 0, 0, 1, 1, 1, 1, 0] B20) (y := sub [1, 0, 1, 0, 0, 1, 0, 0, 1, 1, 1, 1, 1] B20) rfl c111 ?_
            refine TT.skip ?_
            refine TT.inBlock ?_
            refine TT.region (id := 3) (n := 3) (ops := (opsOf (sub [1, 0, 1, 0, 0, 1, 1] B20))) [(.pure, none), (.pure, none), (.pure, none)] rfl ?_
            show DL _ _ _ _ _ _ _ _ _ _ [0, 1, 2] _ _
            refine DL.pu 15 (.int .i64 x5_4) rfl (p_move rfl rfl) ?_
            refine DL.pu 16 (.int .i64 (IntKind.i64.wrap (x5_4 - 1))) rfl (p_sub rfl rfl rfl) ?_
            refine DL.pu 5 (.int .i64 (IntKind.i64.wrap (x5_4 - 1))) rfl (p_assign rfl rfl) ?_
            refine DL.nil ?_
            refine TT.inLoop ?_
            exact TT.weak (ih (IntKind.i64.wrap (x5_4 - 1)) _ h114 hk) (Sub.cons rfl (Sub.cons rfl (Sub.cons rfl (Sub.nil _))))
        by_cases c99 : (decide (x5_4 < (a1.length : Int))) = true
        · have h105 := ite_true c99 h101
          refine TT.cond_true (x := sub [1, 0, 1, 0, 0, 1, 0, 0, 1, 1, 0, 1, 0] B20) (y := sub [1, 0, 1, 0, 0, 1, 0, 0, 1, 1, 0, 1, 1] B20) rfl c99 ?_
          refine TT.region (id := 8) (n := 5) (ops := (opsOf (sub [1, 0, 1, 0, 0, 1, 0, 0, 1, 1, 0, 1, 0] B20))) [(.pure, none), (.pure, none), (.pure, none), (.pure, none), (.pure, none)] rfl ?_
          show DL _ _ _ _ _ _ _ _ _ _ [0, 1, 2, 3, 4] _ _
          refine DL.pu 29 (a1_v) rfl (p_move rfl rfl) ?_
          refine DL.pu 30 (.int .i64 x5_4) rfl (p_move rfl rfl) ?_
          obtain ⟨g106, h107⟩ := req_some h105
          obtain ⟨g108, h109⟩ := req_some h107
          refine DL.pu 31 (elp a1_v x5_4.toNat) rfl (p_slIx1 ty_u52 ty_s35 (RowV.some hr_a1 g106 g108) g106 g108 rfl rfl rfl) ?_
          refine DL.imm (v := .int .u64 (a1.getD x5_4.toNat 0)) rfl (Wn.none rfl) rfl rfl rfl (i_loadEl (RowV.mono hr_a1 hE.mi) (encl_get .u64 (lt_len g106 g108)) ty_a35 rfl rfl) ?_
          refine DL.pu 7 (.int .u64 (a1.getD x5_4.toNat 0)) rfl (p_assign rfl rfl) ?_
          refine DL.nil ?_
          obtain rfl := Option.some.inj h109
          exact TT.weak (J103 ) (Sub.cons rfl (Sub.cons rfl (Sub.cons rfl (Sub.cons rfl (Sub.cons rfl (Sub.nil _))))))
        · replace c99 := Bool.eq_false_iff.mpr c99
          have h110 := ite_false c99 h101
          refine TT.cond_false (x := sub [1, 0, 1, 0, 0, 1, 0, 0, 1, 1, 0, 1, 0] B20) (y := sub [1, 0, 1, 0, 0, 1, 0, 0, 1, 1, 0, 1, 1] B20) rfl c99 ?_
          refine TT.skip ?_
          obtain rfl := Option.some.inj h110
          exact TT.weak (J103 ) (Sub.cons rfl (Sub.cons rfl (Sub.cons rfl (Sub.cons rfl (Sub.cons rfl (Sub.nil _))))))
      by_cases c87 : (decide (x5_4 < (a0.length : Int))) = true
      · have h93 := ite_true c87 h89
        refine TT.cond_true (x := sub [1, 0, 1, 0, 0, 1, 0, 0, 1, 0, 1, 0] B20) (y := sub [1, 0, 1, 0, 0, 1, 0, 0, 1, 0, 1, 1] B20) rfl c87 ?_
        refine TT.region (id := 6) (n := 5) (ops := (opsOf (sub [1, 0, 1, 0, 0, 1, 0, 0, 1, 0, 1, 0] B20))) [(.pure, none), (.pure, none), (.pure, none), (.pure, none), (.pure, none)] rfl ?_
        show DL _ _ _ _ _ _ _ _ _ _ [0, 1, 2, 3, 4] _ _
        refine DL.pu 21 (a0_v) rfl (p_move rfl rfl) ?_
        refine DL.pu 22 (.int .i64 x5_4) rfl (p_move rfl rfl) ?_
        obtain ⟨g94, h95⟩ := req_some h93
        obtain ⟨g96, h97⟩ := req_some h95
        refine DL.pu 23 (elp a0_v x5_4.toNat) rfl (p_slIx1 ty_u52 ty_s35 (RowV.some hr_a0 g94 g96) g94 g96 rfl rfl rfl) ?_
        refine DL.imm (v := .int .u64 (a0.getD x5_4.toNat 0)) rfl (Wn.none rfl) rfl rfl rfl (i_loadEl (RowV.mono hr_a0 hE.mi) (encl_get .u64 (lt_len g94 g96)) ty_a35 rfl rfl) ?_
        refine DL.pu 6 (.int .u64 (a0.getD x5_4.toNat 0)) rfl (p_assign rfl rfl) ?_
        refine DL.nil ?_
        obtain rfl := Option.some.inj h97
        exact TT.weak (J91 ) (Sub.cons rfl (Sub.cons rfl (Sub.cons rfl (Sub.cons rfl (Sub.cons rfl (Sub.nil _))))))
      · replace c87 := Bool.eq_false_iff.mpr c87
        have h98 := ite_false c87 h89
        refine TT.cond_false (x := sub [1, 0, 1, 0, 0, 1, 0, 0, 1, 0, 1, 0] B20) (y := sub [1, 0, 1, 0, 0, 1, 0, 0, 1, 0, 1, 1] B20) rfl c87 ?_
        refine TT.skip ?_
        obtain rfl := Option.some.inj h98
        exact TT.weak (J91 ) (Sub.cons rfl (Sub.cons rfl (Sub.cons rfl (Sub.cons rfl (Sub.cons rfl (Sub.nil _))))))
    · replace c85 := Bool.eq_false_iff.mpr c85
      have h115 := ite_false c85 h
      refine TT.cond_false (x := sub [1, 0, 1, 0, 0, 0, 1, 0] B20) (y := sub [1, 0, 1, 0, 0, 0, 1, 1] B20) rfl c85 ?_
      refine TT.exit rfl ?_
      obtain rfl := Option.some.inj h115
      exact TT.weak (hk) (Sub.nil _)

def ref05_most.f (a0 : List Int) (a1 : List Int) : Option (Bool) := nm (IntKind.i64.wrap ((a0.length : Int) + (a1.length : Int))) fun t1 => onw (ref05_most.L0 a0 a1 (t1.toNat + 2) t1) (fun _ => some true) (fun r => some r)
set_option maxRecDepth 20000 in
theorem ref05_most.ok {a0 : List Int} {a1 : List Int} {a0_v : Value} {a1_v : Value} {r : Bool} (h : ref05_most.f a0 a1 = some r) {M : Mem} (w : World) (hM : Ext M (heapOf w)) (hr_a0 : IntRow M .u64 a0_v a0) (hr_a1 : IntRow M .u64 a1_v a1) : Calls Try.prog 20 #[a0_v, a1_v] w (Post (fun u => u = .bool r) w) := by
  unfold ref05_most.f at h
  have hE := Env.start hM
  refine calls_of_TT (N := 39) (S := [(0, a0_v), (1, a1_v)]) (c := B20) Try.func20 rfl rfl rfl (by simp) ?_
  show TT _ _ _ _ _ _ [.code (sub [] B20)] _ _
  refine TT.seq (x := sub [0] B20) (y := sub [1] B20) ?_
  refine TT.region (id := 0) (n := 1) (ops := (opsOf (sub [0] B20))) [(.pure, none)] rfl ?_
  show DL _ _ _ _ _ _ _ _ _ _ [0] _ _
  refine DL.pu 4 (.bool false) rfl (p_assign rfl rfl) ?_
  refine DL.nil ?_
  refine TT.seq (x := sub [1, 0] B20) (y := sub [1, 1] B20) ?_
  refine TT.seq (x := sub [1, 0, 0] B20) (y := sub [1, 0, 1] B20) ?_
  refine TT.region (id := 1) (n := 6) (ops := (opsOf (sub [1, 0, 0] B20))) [(.pure, none), (.pure, none), (.pure, none), (.pure, none), (.pure, none), (.pure, none)] rfl ?_
  show DL _ _ _ _ _ _ _ _ _ _ [0, 1, 2, 3, 4, 5] _ _
  refine DL.pu 8 (a0_v) rfl (p_move rfl rfl) ?_
  refine DL.pu 9 (.int .i64 (a0.length : Int)) rfl (p_slLen ty_u52 (RowV.sl hr_a0) rfl rfl) ?_
  refine DL.pu 10 (a1_v) rfl (p_move rfl rfl) ?_
  refine DL.pu 11 (.int .i64 (a1.length : Int)) rfl (p_slLen ty_u52 (RowV.sl hr_a1) rfl rfl) ?_
  obtain ⟨t1, e2, h3⟩ := nm_some h
  refine DL.pu 12 (.int .i64 t1) rfl (by rw [e2]; exact p_add rfl rfl rfl) ?_
  refine DL.pu 5 (.int .i64 t1) rfl (p_assign rfl rfl) ?_
  refine DL.nil ?_
  refine TT.block (c := sub [1, 0, 1, 0] B20) ?_
  refine TT.loop (c := sub [1, 0, 1, 0, 0] B20) ?_
  rcases onw_some h3 with ⟨_, h116, h117⟩ | ⟨r119, h116, h117⟩
  · refine TT.weak (ref05_most.L0_ok a0 a0_v a1 a1_v hE hr_a0 hr_a1 (t1.toNat + 2) t1 (.inl ()) h116 (?_)) (Sub.cons rfl (Sub.cons rfl (Sub.cons rfl (Sub.nil _))))
    show TT _ _ _ _ _ _ _ _ _
    refine TT.seq (x := sub [1, 1, 0] B20) (y := sub [1, 1, 1] B20) ?_
    refine TT.region (id := 11) (n := 1) (ops := (opsOf (sub [1, 1, 0] B20))) [(.pure, none)] rfl ?_
    show DL _ _ _ _ _ _ _ _ _ _ [0] _ _
    refine DL.pu 4 (.bool true) rfl (p_assign rfl rfl) ?_
    refine DL.nil ?_
    obtain rfl := Option.some.inj h117
    exact retnE (rs := [.tmp 4]) (vs := [.bool true]) hE.base Try.func20 rfl rfl rfl (res_cons (ResV.tmp rfl) res_nil) rfl
  · obtain rfl := Option.some.inj h117
    exact TT.weak (ref05_most.L0_ok a0 a0_v a1 a1_v hE hr_a0 hr_a1 (t1.toNat + 2) t1 (.inr r119) h116 rfl) (Sub.cons rfl (Sub.cons rfl (Sub.cons rfl (Sub.nil _))))
theorem ref05_most.val {a0 : List Int} {a1 : List Int} {a0_v : Value} {a1_v : Value} {r : Bool} (h : ref05_most.f a0 a1 = some r) {M : Mem} (w : World) (hM : Ext M (heapOf w)) (hr_a0 : IntRow M .u64 a0_v a0) (hr_a1 : IntRow M .u64 a1_v a1) : Calls Try.prog 20 #[a0_v, a1_v] w fun e w' => e = .returned (.bool r) ∧ Below w.heap.size w w' :=
  calls_value (ref05_most.ok h w hM hr_a0 hr_a1)

/-! ### escutcheon/escutcheonref05.root: function 15 -/
noncomputable def B15 : Code := bodyOf Try.f15
def ref05_root.L0 (a0 : Int) (a1 : Int) (t1 : Int) : Nat → (List Int) → Int → Option (List Int)
  | 0, _, _ => none
  | k + 1, y_18, x7_19 => if (decide (0 ≤ x7_19)) = true then (req (y_18.length ≤ 1099511627776) (req (0 ≤ (IntKind.i64.wrap (Int.tdiv x7_19 32))) (req ((IntKind.i64.wrap (Int.tdiv x7_19 32)) < ((y_18).length : Int)) (req (0 ≤ (IntKind.u64.wrap (Int.tmod x7_19 32))) (nm (ishl .u64 1 (IntKind.u64.wrap (Int.tmod x7_19 32))) fun t137 => nm (IntKind.u64.wrap (((y_18).getD ((IntKind.i64.wrap (Int.tdiv x7_19 32)).toNat) 0) + t137)) fun t140 => (ref05_times.f ((y_18).set ((IntKind.i64.wrap (Int.tdiv x7_19 32)).toNat) t140) ((y_18).set ((IntKind.i64.wrap (Int.tdiv x7_19 32)).toNat) t140)).bind fun t145 => req (t145.length ≤ 1099511627776) ((if (a1 == 3) = true then ((ref05_times.f t145 ((y_18).set ((IntKind.i64.wrap (Int.tdiv x7_19 32)).toNat) t140)).bind fun t159 => req (t159.length ≤ 1099511627776) (some t159)) else (some t145)).bind fun j_oj152_153 => (ref05_most.f j_oj152_153 ((List.replicate t1.toNat (0 : Int)).set ((IntKind.i64.wrap (2 * a1)).toNat) a0)).bind fun t166 => (if t166 = true then (some ((y_18).set ((IntKind.i64.wrap (Int.tdiv x7_19 32)).toNat) t140)) else (some y_18)).bind fun j_oj170_171 => ref05_root.L0 a0 a1 t1 k j_oj170_171 (IntKind.i64.wrap (x7_19 - 1)))))))) else (some y_18)
set_option maxRecDepth 20000 in
theorem ref05_root.L0_ok (a0 : Int) (a1 : Int) (t1 : Int) (s5_v : Value) (c14 : Array Value) {R : Ending → World → Prop} {w0 : World} {M0 M I : Mem} {K : List Item} (hE : Env w0 M0 M I) (ho_15 : IntOwn .u64 s5_v c14 ((List.replicate t1.toNat (0 : Int)).set ((IntKind.i64.wrap (2 * a1)).toNat) a0)) :
    ∀ (k : Nat) (y_18 : List Int) (x7_19 : Int) (y_18_v : Value) (y_18_c : Array Value) (r0_ : List Int) (ho_y_18 : IntOwn .u64 y_18_v y_18_c y_18) (h : ref05_root.L0 a0 a1 t1 k y_18 x7_19 = some r0_) (hk : ∀ (z_o16_124_v : Value), ∀ (z_o16_124_c : Array Value), IntOwn .u64 z_o16_124_v z_o16_124_c r0_ → TT Try.prog 15 R 60 w0 I K [(6, z_o16_124_v)] [(Value.ownBlock z_o16_124_v, .cells z_o16_124_c 35 (0, 0)), (Value.ownBlock s5_v, .cells c14 35 (0, 0))]),
      TT Try.prog 15 R 60 w0 I (.code (sub [1, 1, 1, 1, 0, 1, 0, 0] B15) :: .inLoop (sub [1, 1, 1, 1, 0, 1, 0, 0] B15) :: .inBlock 0 :: K) [(1, .int .i64 a1), (5, s5_v), (6, y_18_v), (7, .int .i64 x7_19)] [(Value.ownBlock y_18_v, .cells y_18_c 35 (0, 0)), (Value.ownBlock s5_v, .cells c14 35 (0, 0))] := by
  intro k
  induction k with
  | zero => intro y_18 x7_19 y_18_v y_18_c r0_ ho_y_18 h; simp [ref05_root.L0] at h
  | succ k ih =>
    intro y_18 x7_19 y_18_v y_18_c r0_ ho_y_18 h hk
    unfold ref05_root.L0 at h
    refine TT.seq (x := sub [1, 1, 1, 1, 0, 1, 0, 0, 0] B15) (y := sub [1, 1, 1, 1, 0, 1, 0, 0, 1] B15) ?_
    refine TT.seq (x := sub [1, 1, 1, 1, 0, 1, 0, 0, 0, 0] B15) (y := sub [1, 1, 1, 1, 0, 1, 0, 0, 0, 1] B15) ?_
    refine TT.region (id := 5) (n := 2) (ops := (opsOf (sub [1, 1, 1, 1, 0, 1, 0, 0, 0, 0] B15))) [(.pure, none), (.pure, none)] rfl ?_
    show DL _ _ _ _ _ _ _ _ _ _ [0, 1] _ _
    refine DL.pu 20 (.int .i64 x7_19) rfl (p_move rfl rfl) ?_
    refine DL.pu 21 (.bool (decide (0 ≤ x7_19))) rfl (p_geq rfl rfl rfl) ?_
    refine DL.nil ?_
    by_cases c125 : (decide (0 ≤ x7_19)) = true
    · have h126 := ite_true c125 h
      refine TT.cond_true (x := sub [1, 1, 1, 1, 0, 1, 0, 0, 0, 1, 0] B15) (y := sub [1, 1, 1, 1, 0, 1, 0, 0, 0, 1, 1] B15) rfl c125 ?_
      refine TT.skip ?_
      refine TT.seq (x := sub [1, 1, 1, 1, 0, 1, 0, 0, 1, 0] B15) (y := sub [1, 1, 1, 1, 0, 1, 0, 0, 1, 1] B15) ?_
      refine TT.block (c := sub [1, 1, 1, 1, 0, 1, 0, 0, 1, 0, 0] B15) ?_
      refine TT.seq (x := sub [1, 1, 1, 1, 0, 1, 0, 0, 1, 0, 0, 0] B15) (y := sub [1, 1, 1, 1, 0, 1, 0, 0, 1, 0, 0, 1] B15) ?_
      refine TT.region (id := 7) (n := 3) (ops := (opsOf (sub [1, 1, 1, 1, 0, 1, 0, 0, 1, 0, 0, 0] B15))) [(.pure, none), (.actx, none), (.pure, none)] rfl ?_
      show DL _ _ _ _ _ _ _ _ _ _ [0, 1, 2] _ _
      refine DL.pu 24 (y_18_v) rfl (p_move rfl rfl) ?_
      obtain ⟨g128, h129⟩ := req_some h126
      refine DL.appendI0 (fun s130_v s130_c => [(Value.ownBlock s130_v, .cells s130_c 35 (0, 0)), (Value.ownBlock y_18_v, .cells y_18_c 35 (0, 0)), (Value.ownBlock s5_v, .cells c14 35 (0, 0))]) elem52  g128 (by decide) (fun w hc => IntOwn.src (i := 1) ho_y_18 hc rfl) (i := 1) rfl (Wn.none rfl) rfl rfl rfl rfl rfl rfl (fun _ _ => rfl) ?_
      intro s130_v s130_c ho_s130
      show DL _ _ _ _ _ _ _ _ _ _ _ _ [(Value.ownBlock s130_v, .cells s130_c 35 (0, 0)), (Value.ownBlock y_18_v, .cells y_18_c 35 (0, 0)), (Value.ownBlock s5_v, .cells c14 35 (0, 0))]
      refine DL.pu 8 (s130_v) rfl (p_assign rfl rfl) ?_
      refine DL.nil ?_
      refine TT.seq (x := sub [1, 1, 1, 1, 0, 1, 0, 0, 1, 0, 0, 1, 0] B15) (y := sub [1, 1, 1, 1, 0, 1, 0, 0, 1, 0, 0, 1, 1] B15) ?_
      refine TT.region (id := 8) (n := 15) (ops := (opsOf (sub [1, 1, 1, 1, 0, 1, 0, 0, 1, 0, 0, 1, 0] B15))) [(.pure, none), (.pure, none), (.pure, none), (.pure, none), (.pure, none), (.pure, none), (.pure, none), (.quiet, none), (.pure, none), (.pure, none), (.pure, none), (.pure, none), (.pure, none), (.pure, none), (.store, none)] rfl ?_
      show DL _ _ _ _ _ _ _ _ _ _ [0, 1, 2, 3, 4, 5, 6, 7, 8, 9, 10, 11, 12, 13, 14] _ _
      refine DL.pu 26 (s130_v) rfl (p_move rfl rfl) ?_
      refine DL.pu 27 (.int .i64 x7_19) rfl (p_move rfl rfl) ?_
      refine DL.pu 28 (.int .i64 (IntKind.i64.wrap (Int.tdiv x7_19 32))) rfl (p_quo (by decide) rfl rfl rfl) ?_
      refine DL.pu 29 (s130_v) rfl (p_move rfl rfl) ?_
      refine DL.pu 30 (.int .i64 x7_19) rfl (p_move rfl rfl) ?_
      refine DL.pu 31 (.int .i64 (IntKind.i64.wrap (Int.tdiv x7_19 32))) rfl (p_quo (by decide) rfl rfl rfl) ?_
      obtain ⟨g131, h132⟩ := req_some h129
      obtain ⟨g133, h134⟩ := req_some h132
      refine DL.pu 32 (elp s130_v ((IntKind.i64.wrap (Int.tdiv x7_19 32)).toNat)) rfl (p_slIx1 ty_u52 ty_s35 (OwnV.some ho_s130 g131 g133) g131 g133 rfl rfl rfl) ?_
      refine DL.qu 33 (.int .u64 ((y_18).getD ((IntKind.i64.wrap (Int.tdiv x7_19 32)).toNat) 0)) rfl (f_loadEl (i := 0) rfl ho_s130 (encl_get .u64 (lt_len g131 g133)) ty_a35 rfl rfl) ?_
      refine DL.pu 34 (.int .i64 x7_19) rfl (p_move rfl rfl) ?_
      refine DL.pu 35 (.int .i64 (Int.tmod x7_19 32)) rfl (p_rem (by decide) rfl rfl rfl) ?_
      refine DL.pu 36 (.int .u64 (IntKind.u64.wrap (Int.tmod x7_19 32))) rfl (p_conv ty_u3 ty_u50 ⟨_, rfl⟩ rfl rfl) ?_
      obtain ⟨g135, h136⟩ := req_some h134
      obtain ⟨t137, e138, h139⟩ := nm_some h136
      refine DL.pu 37 (.int .u64 t137) rfl (by rw [e138]; exact p_shl g135 rfl rfl rfl) ?_
      obtain ⟨t140, e141, h142⟩ := nm_some h139
      refine DL.pu 38 (.int .u64 t140) rfl (by rw [e141]; exact p_add rfl rfl rfl) ?_
      refine DL.pu 39 (elp s130_v ((IntKind.i64.wrap (Int.tdiv x7_19 32)).toNat)) rfl (p_slIx1 ty_u52 ty_s35 (OwnV.some ho_s130 g131 g133) g131 g133 rfl rfl rfl) ?_
      obtain ⟨c143, c143_e⟩ : ∃ c, c = s130_c.setIfInBounds ((IntKind.i64.wrap (Int.tdiv x7_19 32)).toNat) (.int .u64 t140) := ⟨_, rfl⟩
      have ho_144 : IntOwn .u64 s130_v c143 ((y_18).set ((IntKind.i64.wrap (Int.tdiv x7_19 32)).toNat) t140) := by rw [c143_e]; exact IntOwn.set ho_s130 (lt_len g131 g133) t140
      refine DL.put (H' := [(Value.ownBlock s130_v, .cells c143 35 (0, 0)), (Value.ownBlock y_18_v, .cells y_18_c 35 (0, 0)), (Value.ownBlock s5_v, .cells c14 35 (0, 0))]) (i := 14) rfl (Wn.none rfl) rfl rfl (by rw [c143_e]; exact f_storeEl (i := 0) ty_s35 rfl ho_s130 (lt_len1 g131 g133) rfl trivial rfl rfl rfl) (keep_none rfl) ?_
      refine DL.nil ?_
      refine TT.seq (x := sub [1, 1, 1, 1, 0, 1, 0, 0, 1, 0, 0, 1, 1, 0] B15) (y := sub [1, 1, 1, 1, 0, 1, 0, 0, 1, 0, 0, 1, 1, 1] B15) ?_
      refine TT.region (id := 9) (n := 4) (ops := (opsOf (sub [1, 1, 1, 1, 0, 1, 0, 0, 1, 0, 0, 1, 1, 0] B15))) [(.pure, none), (.pure, none), (.actx, none), (.pure, none)] rfl ?_
      show DL _ _ _ _ _ _ _ _ _ _ [0, 1, 2, 3] _ _
      refine DL.pu 40 (s130_v) rfl (p_move rfl rfl) ?_
      refine DL.pu 41 (s130_v) rfl (p_move rfl rfl) ?_
      obtain ⟨t145, h146, h147⟩ := bind_some h142
      obtain ⟨g148, h149⟩ := req_some h147
      refine DL.ownx (zs := t145) (H' := fun t145_v t145_c => [(Value.ownBlock t145_v, .cells t145_c 35 (0, 0)), (Value.ownBlock s130_v, .cells c143 35 (0, 0)), (Value.ownBlock y_18_v, .cells y_18_c 35 (0, 0)), (Value.ownBlock s5_v, .cells c14 35 (0, 0))]) (i := 2) rfl (Wn.none rfl) rfl rfl rfl (f_callOwn rfl rfl (args_val (vs := [s130_v, s130_v]) rfl) (fun w => enter19 _ w) (fun w hc => ref05_times.ok h146 (M := heapOf w) w (Ext.refl _) (IntOwn.row ho_144 hc (i := 0) rfl) (IntOwn.row ho_144 hc (i := 0) rfl))) (fun _ => rfl) ?_
      intro t145_v t145_c ho_t145
      show DL _ _ _ _ _ _ _ _ _ _ _ _ [(Value.ownBlock t145_v, .cells t145_c 35 (0, 0)), (Value.ownBlock s130_v, .cells c143 35 (0, 0)), (Value.ownBlock y_18_v, .cells y_18_c 35 (0, 0)), (Value.ownBlock s5_v, .cells c14 35 (0, 0))]
      refine DL.pu 9 (t145_v) rfl (p_assign rfl rfl) ?_
      refine DL.nil ?_
      refine TT.seq (x := sub [1, 1, 1, 1, 0, 1, 0, 0, 1, 0, 0, 1, 1, 1, 0] B15) (y := sub [1, 1, 1, 1, 0, 1, 0, 0, 1, 0, 0, 1, 1, 1, 1] B15) ?_
      refine TT.seq (x := sub [1, 1, 1, 1, 0, 1, 0, 0, 1, 0, 0, 1, 1, 1, 0, 0] B15) (y := sub [1, 1, 1, 1, 0, 1, 0, 0, 1, 0, 0, 1, 1, 1, 0, 1] B15) ?_
      refine TT.region (id := 10) (n := 2) (ops := (opsOf (sub [1, 1, 1, 1, 0, 1, 0, 0, 1, 0, 0, 1, 1, 1, 0, 0] B15))) [(.pure, none), (.pure, none)] rfl ?_
      show DL _ _ _ _ _ _ _ _ _ _ [0, 1] _ _
      refine DL.pu 43 (.int .i64 a1) rfl (p_move rfl rfl) ?_
      refine DL.pu 44 (.bool (a1 == 3)) rfl (p_eql rfl rfl rfl) ?_
      refine DL.nil ?_
      obtain ⟨j_oj152_153, h154, h155⟩ := bind_some h149
      have J156 : ∀ (j_oj152_153_v : Value), ∀ (j_oj152_153_c : Array Value), IntOwn .u64 j_oj152_153_v j_oj152_153_c j_oj152_153 → TT Try.prog 15 R 60 w0 I (.code (sub [1, 1, 1, 1, 0, 1, 0, 0, 1, 0, 0, 1, 1, 1, 1] B15) :: .inBlock 1 :: .code (sub [1, 1, 1, 1, 0, 1, 0, 0, 1, 1] B15) :: .inLoop (sub [1, 1, 1, 1, 0, 1, 0, 0] B15) :: .inBlock 0 :: K) [(1, .int .i64 a1), (5, s5_v), (6, y_18_v), (7, .int .i64 x7_19), (8, s130_v), (9, j_oj152_153_v)] [(Value.ownBlock j_oj152_153_v, .cells j_oj152_153_c 35 (0, 0)), (Value.ownBlock s130_v, .cells c143 35 (0, 0)), (Value.ownBlock y_18_v, .cells y_18_c 35 (0, 0)), (Value.ownBlock s5_v, .cells c14 35 (0, 0))] := by
        intro j_oj152_153_v j_oj152_153_c ho_j_oj152_153
        refine TT.seq (x := sub [1, 1, 1, 1, 0, 1, 0, 0, 1, 0, 0, 1, 1, 1, 1, 0] B15) (y := sub [1, 1, 1, 1, 0, 1, 0, 0, 1, 0, 0, 1, 1, 1, 1, 1] B15) ?_
        refine TT.region (id := 12) (n := 3) (ops := (opsOf (sub [1, 1, 1, 1, 0, 1, 0, 0, 1, 0, 0, 1, 1, 1, 1, 0] B15))) [(.pure, none), (.pure, none), (.quiet, none)] rfl ?_
        show DL _ _ _ _ _ _ _ _ _ _ [0, 1, 2] _ _
        refine DL.pu 48 (j_oj152_153_v) rfl (p_move rfl rfl) ?_
        refine DL.pu 49 (s5_v) rfl (p_move rfl rfl) ?_
        obtain ⟨t166, h167, h168⟩ := bind_some h155
        refine DL.qu 50 (.bool t166) rfl (f_callR rfl rfl (args_val (vs := [j_oj152_153_v, s5_v]) rfl) (fun w => enter20 _ w) (fun w hc => ref05_most.val h167 (M := heapOf w) w (Ext.refl _) (IntOwn.row ho_j_oj152_153 hc (i := 0) rfl) (IntOwn.row ho_15 hc (i := 3) rfl))) ?_
        refine DL.nil ?_
        obtain ⟨j_oj170_171, h172, h173⟩ := bind_some h168
        have J174 : ∀ (j_oj170_171_v : Value), ∀ (j_oj170_171_c : Array Value), IntOwn .u64 j_oj170_171_v j_oj170_171_c j_oj170_171 → TT Try.prog 15 R 60 w0 I (.inBlock 1 :: .code (sub [1, 1, 1, 1, 0, 1, 0, 0, 1, 1] B15) :: .inLoop (sub [1, 1, 1, 1, 0, 1, 0, 0] B15) :: .inBlock 0 :: K) [(1, .int .i64 a1), (5, s5_v), (6, j_oj170_171_v), (7, .int .i64 x7_19)] [(Value.ownBlock j_oj170_171_v, .cells j_oj170_171_c 35 (0, 0)), (Value.ownBlock j_oj152_153_v, .cells j_oj152_153_c 35 (0, 0)), (Value.ownBlock s5_v, .cells c14 35 (0, 0))] := by
          intro j_oj170_171_v j_oj170_171_c ho_j_oj170_171
          refine TT.inBlock ?_
          refine TT.region (id := 6) (n := 3) (ops := (opsOf (sub [1, 1, 1, 1, 0, 1, 0, 0, 1, 1] B15))) [(.pure, none), (.pure, none), (.pure, none)] rfl ?_
          show DL _ _ _ _ _ _ _ _ _ _ [0, 1, 2] _ _
          refine DL.pu 22 (.int .i64 x7_19) rfl (p_move rfl rfl) ?_
          refine DL.pu 23 (.int .i64 (IntKind.i64.wrap (x7_19 - 1))) rfl (p_sub rfl rfl rfl) ?_
          refine DL.pu 7 (.int .i64 (IntKind.i64.wrap (x7_19 - 1))) rfl (p_assign rfl rfl) ?_
          refine DL.nil ?_
          refine TT.inLoop ?_
          exact TT.pick [0, 2] (by decide) (TT.weak (ih j_oj170_171 (IntKind.i64.wrap (x7_19 - 1)) j_oj170_171_v j_oj170_171_c r0_ ho_j_oj170_171 h173 hk) (Sub.cons rfl (Sub.cons rfl (Sub.cons rfl (Sub.cons rfl (Sub.nil _))))))
        by_cases c169 : t166 = true
        · have h176 := ite_true c169 h172
          refine TT.cond_true (x := sub [1, 1, 1, 1, 0, 1, 0, 0, 1, 0, 0, 1, 1, 1, 1, 1, 0] B15) (y := sub [1, 1, 1, 1, 0, 1, 0, 0, 1, 0, 0, 1, 1, 1, 1, 1, 1] B15) rfl c169 ?_
          refine TT.region (id := 13) (n := 2) (ops := (opsOf (sub [1, 1, 1, 1, 0, 1, 0, 0, 1, 0, 0, 1, 1, 1, 1, 1, 0] B15))) [(.pure, none), (.pure, none)] rfl ?_
          show DL _ _ _ _ _ _ _ _ _ _ [0, 1] _ _
          refine DL.pu 51 (s130_v) rfl (p_move rfl rfl) ?_
          refine DL.pu 6 (s130_v) rfl (p_assign rfl rfl) ?_
          refine DL.nil ?_
          obtain rfl := Option.some.inj h176
          exact TT.pick [1, 0, 3] (by decide) (TT.weak (J174 s130_v c143 ho_144) (Sub.cons rfl (Sub.cons rfl (Sub.cons rfl (Sub.cons rfl (Sub.nil _))))))
        · replace c169 := Bool.eq_false_iff.mpr c169
          have h177 := ite_false c169 h172
          refine TT.cond_false (x := sub [1, 1, 1, 1, 0, 1, 0, 0, 1, 0, 0, 1, 1, 1, 1, 1, 0] B15) (y := sub [1, 1, 1, 1, 0, 1, 0, 0, 1, 0, 0, 1, 1, 1, 1, 1, 1] B15) rfl c169 ?_
          refine TT.skip ?_
          obtain rfl := Option.some.inj h177
          exact TT.pick [2, 0, 3] (by decide) (TT.weak (J174 y_18_v y_18_c ho_y_18) (Sub.cons rfl (Sub.cons rfl (Sub.cons rfl (Sub.cons rfl (Sub.nil _))))))
      by_cases c151 : (a1 == 3) = true
      · have h158 := ite_true c151 h154
        refine TT.cond_true (x := sub [1, 1, 1, 1, 0, 1, 0, 0, 1, 0, 0, 1, 1, 1, 0, 1, 0] B15) (y := sub [1, 1, 1, 1, 0, 1, 0, 0, 1, 0, 0, 1, 1, 1, 0, 1, 1] B15) rfl c151 ?_
        refine TT.region (id := 11) (n := 4) (ops := (opsOf (sub [1, 1, 1, 1, 0, 1, 0, 0, 1, 0, 0, 1, 1, 1, 0, 1, 0] B15))) [(.pure, none), (.pure, none), (.actx, none), (.pure, none)] rfl ?_
        show DL _ _ _ _ _ _ _ _ _ _ [0, 1, 2, 3] _ _
        refine DL.pu 45 (t145_v) rfl (p_move rfl rfl) ?_
        refine DL.pu 46 (s130_v) rfl (p_move rfl rfl) ?_
        obtain ⟨t159, h160, h161⟩ := bind_some h158
        obtain ⟨g162, h163⟩ := req_some h161
        refine DL.ownx (zs := t159) (H' := fun t159_v t159_c => [(Value.ownBlock t159_v, .cells t159_c 35 (0, 0)), (Value.ownBlock t145_v, .cells t145_c 35 (0, 0)), (Value.ownBlock s130_v, .cells c143 35 (0, 0)), (Value.ownBlock y_18_v, .cells y_18_c 35 (0, 0)), (Value.ownBlock s5_v, .cells c14 35 (0, 0))]) (i := 2) rfl (Wn.none rfl) rfl rfl rfl (f_callOwn rfl rfl (args_val (vs := [t145_v, s130_v]) rfl) (fun w => enter19 _ w) (fun w hc => ref05_times.ok h160 (M := heapOf w) w (Ext.refl _) (IntOwn.row ho_t145 hc (i := 0) rfl) (IntOwn.row ho_144 hc (i := 1) rfl))) (fun _ => rfl) ?_
        intro t159_v t159_c ho_t159
        show DL _ _ _ _ _ _ _ _ _ _ _ _ [(Value.ownBlock t159_v, .cells t159_c 35 (0, 0)), (Value.ownBlock t145_v, .cells t145_c 35 (0, 0)), (Value.ownBlock s130_v, .cells c143 35 (0, 0)), (Value.ownBlock y_18_v, .cells y_18_c 35 (0, 0)), (Value.ownBlock s5_v, .cells c14 35 (0, 0))]
        refine DL.pu 9 (t159_v) rfl (p_assign rfl rfl) ?_
        refine DL.nil ?_
        obtain rfl := Option.some.inj h163
        exact TT.pick [0, 2, 3, 4] (by decide) (TT.weak (J156 t159_v t159_c ho_t159) (Sub.cons rfl (Sub.cons rfl (Sub.cons rfl (Sub.cons rfl (Sub.cons rfl (Sub.cons rfl (Sub.nil _))))))))
      · replace c151 := Bool.eq_false_iff.mpr c151
        have h165 := ite_false c151 h154
        refine TT.cond_false (x := sub [1, 1, 1, 1, 0, 1, 0, 0, 1, 0, 0, 1, 1, 1, 0, 1, 0] B15) (y := sub [1, 1, 1, 1, 0, 1, 0, 0, 1, 0, 0, 1, 1, 1, 0, 1, 1] B15) rfl c151 ?_
        refine TT.skip ?_
        obtain rfl := Option.some.inj h165
        exact TT.weak (J156 t145_v t145_c ho_t145) (Sub.cons rfl (Sub.cons rfl (Sub.cons rfl (Sub.cons rfl (Sub.cons rfl (Sub.cons rfl (Sub.nil _)))))))
    · replace c125 := Bool.eq_false_iff.mpr c125
      have h178 := ite_false c125 h
      refine TT.cond_false (x := sub [1, 1, 1, 1, 0, 1, 0, 0, 0, 1, 0] B15) (y := sub [1, 1, 1, 1, 0, 1, 0, 0, 0, 1, 1] B15) rfl c125 ?_
      refine TT.exit rfl ?_
      obtain rfl := Option.some.inj h178
      exact TT.weak (hk y_18_v y_18_c ho_y_18) (Sub.cons rfl (Sub.nil _))

def ref05_root.f (a0 : Int) (a1 : Int) : Option (Int) := nm (IntKind.i64.wrap ((IntKind.i64.wrap (2 * a1)) + 1)) fun t1 => req (0 ≤ t1) (req (t1 ≤ 1099511627776) (req (0 ≤ (IntKind.i64.wrap (2 * a1))) (req ((IntKind.i64.wrap (2 * a1)) < ((List.replicate t1.toNat (0 : Int)).length : Int)) ((ref05_root.L0 a0 a1 t1 71 [0, 0, 0] 69).bind fun z_o16_124 => req ((0 : Int) < (z_o16_124.length : Int)) (req ((1 : Int) < (z_o16_124.length : Int)) (nm (ishl .u64 (z_o16_124.getD ((1 : Int).toNat) 0) 32) fun t187 => nm (IntKind.u64.wrap ((z_o16_124.getD ((0 : Int).toNat) 0) + t187)) fun t190 => some t190))))))
set_option maxHeartbeats 1000000 in
set_option maxRecDepth 20000 in
theorem ref05_root.ok {a0 : Int} {a1 : Int} {r : Int} (h : ref05_root.f a0 a1 = some r) {M : Mem} (w : World) (hM : Ext M (heapOf w)) : Calls Try.prog 15 #[.int .u64 a0, .int .i64 a1] w (Post (fun u => u = .int .u64 r) w) := by
  unfold ref05_root.f at h
  have hE := Env.start hM
  refine calls_of_TT (N := 60) (S := [(0, .int .u64 a0), (1, .int .i64 a1)]) (c := B15) Try.func15 rfl rfl rfl (by simp) ?_
  show TT _ _ _ _ _ _ [.code (sub [] B15)] _ _
  refine TT.seq (x := sub [0] B15) (y := sub [1] B15) ?_
  refine TT.region (id := 0) (n := 1) (ops := (opsOf (sub [0] B15))) [(.pure, none)] rfl ?_
  show DL _ _ _ _ _ _ _ _ _ _ [0] _ _
  refine DL.pu 4 (.int .u64 0) rfl (p_assign rfl rfl) ?_
  refine DL.nil ?_
  refine TT.seq (x := sub [1, 0] B15) (y := sub [1, 1] B15) ?_
  refine TT.region (id := 1) (n := 5) (ops := (opsOf (sub [1, 0] B15))) [(.pure, none), (.pure, none), (.pure, none), (.alloc, none), (.pure, none)] rfl ?_
  show DL _ _ _ _ _ _ _ _ _ _ [0, 1, 2, 3, 4] _ _
  refine DL.pu 10 (.int .i64 a1) rfl (p_move rfl rfl) ?_
  refine DL.pu 11 (.int .i64 (IntKind.i64.wrap (2 * a1))) rfl (p_mul rfl rfl rfl) ?_
  obtain ⟨t1, e2, h3⟩ := nm_some h
  refine DL.pu 12 (.int .i64 t1) rfl (by rw [e2]; exact p_add rfl rfl rfl) ?_
  obtain ⟨g6, h7⟩ := req_some h3
  obtain ⟨g8, h9⟩ := req_some h7
  refine DL.newSl (zs := List.replicate t1.toNat (0 : Int)) (n := t1.toNat) List.length_replicate (make_le g8) (i := 3) rfl (Wn.none rfl) rfl rfl rfl (f_makeN elem52 g6 g8 (by decide) rfl rfl rfl) ?_
  intro s5_v s5_c ho_s5
  refine DL.pu 5 (s5_v) rfl (p_assign rfl rfl) ?_
  refine DL.nil ?_
  refine TT.seq (x := sub [1, 1, 0] B15) (y := sub [1, 1, 1] B15) ?_
  refine TT.region (id := 2) (n := 6) (ops := (opsOf (sub [1, 1, 0] B15))) [(.pure, none), (.pure, none), (.pure, none), (.pure, none), (.pure, none), (.store, none)] rfl ?_
  show DL _ _ _ _ _ _ _ _ _ _ [0, 1, 2, 3, 4, 5] _ _
  refine DL.pu 14 (s5_v) rfl (p_move rfl rfl) ?_
  refine DL.pu 15 (.int .i64 a1) rfl (p_move rfl rfl) ?_
  refine DL.pu 16 (.int .i64 (IntKind.i64.wrap (2 * a1))) rfl (p_mul rfl rfl rfl) ?_
  refine DL.pu 17 (.int .u64 a0) rfl (p_move rfl rfl) ?_
  obtain ⟨g10, h11⟩ := req_some h9
  obtain ⟨g12, h13⟩ := req_some h11
  refine DL.pu 18 (elp s5_v ((IntKind.i64.wrap (2 * a1)).toNat)) rfl (p_slIx1 ty_u52 ty_s35 (OwnV.some ho_s5 g10 g12) g10 g12 rfl rfl rfl) ?_
  obtain ⟨c14, c14_e⟩ : ∃ c, c = s5_c.setIfInBounds ((IntKind.i64.wrap (2 * a1)).toNat) (.int .u64 a0) := ⟨_, rfl⟩
  have ho_15 : IntOwn .u64 s5_v c14 ((List.replicate t1.toNat (0 : Int)).set ((IntKind.i64.wrap (2 * a1)).toNat) a0) := by rw [c14_e]; exact IntOwn.set ho_s5 (lt_len g10 g12) a0
  refine DL.put (H' := [(Value.ownBlock s5_v, .cells c14 35 (0, 0))]) (i := 5) rfl (Wn.none rfl) rfl rfl (by rw [c14_e]; exact f_storeEl (i := 0) ty_s35 rfl ho_s5 (lt_len1 g10 g12) rfl trivial rfl rfl rfl) (keep_none rfl) ?_
  refine DL.nil ?_
  refine TT.seq (x := sub [1, 1, 1, 0] B15) (y := sub [1, 1, 1, 1] B15) ?_
  refine TT.region (id := 3) (n := 2) (ops := (opsOf (sub [1, 1, 1, 0] B15))) [(.alloc, none), (.pure, none)] rfl ?_
  show DL _ _ _ _ _ _ _ _ _ _ [0, 1] _ _
  refine DL.newSl (zs := [0, 0, 0]) (n := 3) rfl (by decide) (i := 0) rfl (Wn.none rfl) rfl rfl rfl (f_buildSl (n := 3) (zs := [0, 0, 0]) (vs := [(0, .int .u64 0), (1, .int .u64 0), (2, .int .u64 0)]) elem52 rfl rfl (by kernel_rfl) rfl (args_val2 rfl)) ?_
  intro s17_v s17_c ho_s17
  refine DL.pu 6 (s17_v) rfl (p_assign rfl rfl) ?_
  refine DL.nil ?_
  refine TT.seq (x := sub [1, 1, 1, 1, 0] B15) (y := sub [1, 1, 1, 1, 1] B15) ?_
  refine TT.seq (x := sub [1, 1, 1, 1, 0, 0] B15) (y := sub [1, 1, 1, 1, 0, 1] B15) ?_
  refine TT.region (id := 4) (n := 1) (ops := (opsOf (sub [1, 1, 1, 1, 0, 0] B15))) [(.pure, none)] rfl ?_
  show DL _ _ _ _ _ _ _ _ _ _ [0] _ _
  refine DL.pu 7 (.int .i64 69) rfl (p_assign rfl rfl) ?_
  refine DL.nil ?_
  refine TT.block (c := sub [1, 1, 1, 1, 0, 1, 0] B15) ?_
  refine TT.loop (c := sub [1, 1, 1, 1, 0, 1, 0, 0] B15) ?_
  obtain ⟨z_o16_124, h179, h180⟩ := bind_some h13
  refine TT.weak (ref05_root.L0_ok a0 a1 t1 s5_v c14 hE ho_15 71 [0, 0, 0] 69 s17_v s17_c z_o16_124 ho_s17 h179 (fun z_o16_124_v z_o16_124_c ho_z_o16_124 => ?_)) (Sub.cons rfl (Sub.cons rfl (Sub.cons rfl (Sub.cons rfl (Sub.nil _)))))
  refine TT.seq (x := sub [1, 1, 1, 1, 1, 0] B15) (y := sub [1, 1, 1, 1, 1, 1] B15) ?_
  refine TT.regionD (id := 14) (ops := (opsOf (sub [1, 1, 1, 1, 1, 0] B15))) [0, 1, 2, 3, 4, 5, 6, 7, 8] [0, 1, 3, 0, 8, 24, 56, 127, 255] [(.pure, none), (.pure, none), (.quiet, none), (.pure, none), (.pure, none), (.quiet, none), (.pure, none), (.pure, none), (.pure, none)] mixed (by kernel_rfl) ?_
  intro w182 hl182 hj182 hz182
  refine DL.pu 52 (z_o16_124_v) rfl (p_move rfl rfl) ?_
  obtain ⟨g183, h184⟩ := req_some h180
  refine DL.pu 53 (elp z_o16_124_v ((0 : Int).toNat)) rfl (p_slIx1 ty_u52 ty_s35 (OwnV.some ho_z_o16_124 (by decide) g183) (by decide) g183 rfl rfl rfl) ?_
  refine DL.qu 54 (.int .u64 (z_o16_124.getD ((0 : Int).toNat) 0)) rfl (f_loadEl (i := 0) rfl ho_z_o16_124 (encl_get .u64 (lt_len (by decide) g183)) ty_a35 rfl rfl) ?_
  refine DL.pu 55 (z_o16_124_v) rfl (p_move rfl rfl) ?_
  obtain ⟨g185, h186⟩ := req_some h184
  refine DL.pu 56 (elp z_o16_124_v ((1 : Int).toNat)) rfl (p_slIx1 ty_u52 ty_s35 (OwnV.some ho_z_o16_124 (by decide) g185) (by decide) g185 rfl rfl rfl) ?_
  refine DL.qu 57 (.int .u64 (z_o16_124.getD ((1 : Int).toNat) 0)) rfl (f_loadEl (i := 0) rfl ho_z_o16_124 (encl_get .u64 (lt_len (by decide) g185)) ty_a35 rfl rfl) ?_
  obtain ⟨t187, e188, h189⟩ := nm_some h186
  refine DL.pu 58 (.int .u64 t187) rfl (by rw [e188]; exact p_shl (by decide) rfl rfl rfl) ?_
  obtain ⟨t190, e191, h192⟩ := nm_some h189
  refine DL.pu 59 (.int .u64 t190) rfl (by rw [e191]; exact p_add rfl rfl rfl) ?_
  refine DL.pu 4 (.int .u64 t190) rfl (p_assign rfl rfl) ?_
  refine DL.nil' hl182 ?_
  obtain rfl := Option.some.inj h192
  exact retnE (rs := [.tmp 4]) (vs := [.int .u64 t190]) hE.base Try.func15 rfl rfl rfl (res_cons (ResV.tmp rfl) res_nil) rfl
theorem ref05_root.val {a0 : Int} {a1 : Int} {r : Int} (h : ref05_root.f a0 a1 = some r) {M : Mem} (w : World) (hM : Ext M (heapOf w)) : Calls Try.prog 15 #[.int .u64 a0, .int .i64 a1] w fun e w' => e = .returned (.int .u64 r) ∧ Below w.heap.size w w' :=
  calls_value (ref05_root.ok h w hM)

/-! ### escutcheon/escutcheonref05.Begin: function 8 -/
noncomputable def B8 : Code := bodyOf Try.f8
def ref05_Begin.L1 (x2_9 : Int) : Nat → Bool → Int → Option (Bool)
  | 0, _, _ => none
  | k + 1, x3_195, x4_196 => nm (decide ((IntKind.u64.wrap (x4_196 * x4_196)) ≤ x2_9)) fun t261 => if t261 = true then ((if x3_195 = true then (req (x4_196 ≠ 0) (some ((Int.tmod x2_9 x4_196) != 0))) else (some false)).bind fun q267 => ref05_Begin.L1 x2_9 k q267 (IntKind.u64.wrap (x4_196 + 1))) else (some x3_195)
set_option maxRecDepth 20000 in
theorem ref05_Begin.L1_ok (b1 : Nat) (b2 : Nat) (y_7_v : Value) (y_7_c : Array Value) (y_8_v : Value) (y_8_c : Array Value) (x2_9 : Int) {R : Ending → World → Prop} {w0 : World} {M0 M I : Mem} {K : List Item} (hE : Env w0 M0 M I) :
    ∀ (k : Nat) (x3_195 : Bool) (x4_196 : Int) (r0_ : Bool) (h : ref05_Begin.L1 x2_9 k x3_195 x4_196 = some r0_) (hk : TT Try.prog 8 R 48 w0 I K [(0, ptr b1 0), (1, ptr b2 0), (2, .int .u64 x2_9), (3, .bool r0_)] [(Value.ownBlock (.slice none 0 0), .cells (#[]) 35 (0, 0)), (Value.ownBlock (.slice none 0 0), .cells (#[]) 35 (0, 0)), (Value.ownBlock y_7_v, .cells y_7_c 35 (0, 0)), (Value.ownBlock y_8_v, .cells y_8_c 35 (0, 0)), (some b2, .cells (#[y_8_v, y_7_v]) 33 (0, 0)), (some b1, .cells (#[(.slice none 0 0), (.slice none 0 0)]) 33 (0, 0))]),
      TT Try.prog 8 R 48 w0 I (.code (sub [1, 1, 0, 1, 0, 0, 1, 0, 0, 1, 0, 1, 0, 0] B8) :: .inLoop (sub [1, 1, 0, 1, 0, 0, 1, 0, 0, 1, 0, 1, 0, 0] B8) :: .inBlock 2 :: K) [(0, ptr b1 0), (1, ptr b2 0), (2, .int .u64 x2_9), (3, .bool x3_195), (4, .int .u64 x4_196)] [(Value.ownBlock (.slice none 0 0), .cells (#[]) 35 (0, 0)), (Value.ownBlock (.slice none 0 0), .cells (#[]) 35 (0, 0)), (Value.ownBlock y_7_v, .cells y_7_c 35 (0, 0)), (Value.ownBlock y_8_v, .cells y_8_c 35 (0, 0)), (some b2, .cells (#[y_8_v, y_7_v]) 33 (0, 0)), (some b1, .cells (#[(.slice none 0 0), (.slice none 0 0)]) 33 (0, 0))] := by
  intro k
  induction k with
  | zero => intro x3_195 x4_196 r0_ h; simp [ref05_Begin.L1] at h
  | succ k ih =>
    intro x3_195 x4_196 r0_ h hk
    unfold ref05_Begin.L1 at h
    refine TT.seq (x := sub [1, 1, 0, 1, 0, 0, 1, 0, 0, 1, 0, 1, 0, 0, 0] B8) (y := sub [1, 1, 0, 1, 0, 0, 1, 0, 0, 1, 0, 1, 0, 0, 1] B8) ?_
    refine TT.seq (x := sub [1, 1, 0, 1, 0, 0, 1, 0, 0, 1, 0, 1, 0, 0, 0, 0] B8) (y := sub [1, 1, 0, 1, 0, 0, 1, 0, 0, 1, 0, 1, 0, 0, 0, 1] B8) ?_
    refine TT.region (id := 7) (n := 5) (ops := (opsOf (sub [1, 1, 0, 1, 0, 0, 1, 0, 0, 1, 0, 1, 0, 0, 0, 0] B8))) [(.pure, none), (.pure, none), (.pure, none), (.pure, none), (.pure, none)] rfl ?_
    show DL _ _ _ _ _ _ _ _ _ _ [0, 1, 2, 3, 4] _ _
    refine DL.pu 11 (.int .u64 x4_196) rfl (p_move rfl rfl) ?_
    refine DL.pu 12 (.int .u64 x4_196) rfl (p_move rfl rfl) ?_
    refine DL.pu 13 (.int .u64 (IntKind.u64.wrap (x4_196 * x4_196))) rfl (p_mul rfl rfl rfl) ?_
    refine DL.pu 14 (.int .u64 x2_9) rfl (p_move rfl rfl) ?_
    obtain ⟨t261, e262, h263⟩ := nm_some h
    refine DL.pu 15 (.bool t261) rfl (by rw [e262]; exact p_leq rfl rfl rfl) ?_
    refine DL.nil ?_
    by_cases c264 : t261 = true
    · have h265 := ite_true c264 h263
      refine TT.cond_true (x := sub [1, 1, 0, 1, 0, 0, 1, 0, 0, 1, 0, 1, 0, 0, 0, 1, 0] B8) (y := sub [1, 1, 0, 1, 0, 0, 1, 0, 0, 1, 0, 1, 0, 0, 0, 1, 1] B8) rfl c264 ?_
      refine TT.skip ?_
      refine TT.seq (x := sub [1, 1, 0, 1, 0, 0, 1, 0, 0, 1, 0, 1, 0, 0, 1, 0] B8) (y := sub [1, 1, 0, 1, 0, 0, 1, 0, 0, 1, 0, 1, 0, 0, 1, 1] B8) ?_
      refine TT.block (c := sub [1, 1, 0, 1, 0, 0, 1, 0, 0, 1, 0, 1, 0, 0, 1, 0, 0] B8) ?_
      refine TT.region (id := 9) (n := 8) (ops := (opsOf (sub [1, 1, 0, 1, 0, 0, 1, 0, 0, 1, 0, 1, 0, 0, 1, 0, 0] B8))) [(.pure, none), (.pure, none), (.pure, none), (.pure, none), (.pure, none), (.pure, none), (.pure, none), (.pure, none)] rfl ?_
      show DL _ _ _ _ _ _ _ _ _ _ [0, 1, 2, 3, 4, 5, 6, 7] _ _
      refine DL.pu 18 (.bool x3_195) rfl (p_move rfl rfl) ?_
      refine DL.pu 19 (.bool x3_195) rfl (p_move rfl rfl) ?_
      obtain ⟨q267, h268, h269⟩ := bind_some h265
      refine DL.cut [(0, ptr b1 0), (1, ptr b2 0), (2, .int .u64 x2_9), (4, .int .u64 x4_196), (24, .bool q267)] [7] ?_ (fun J270 => ?_)
      · refine DL.pu 3 (.bool q267) rfl (p_assign rfl rfl) ?_
        refine DL.nil ?_
        refine TT.inBlock ?_
        refine TT.region (id := 8) (n := 3) (ops := (opsOf (sub [1, 1, 0, 1, 0, 0, 1, 0, 0, 1, 0, 1, 0, 0, 1, 1] B8))) [(.pure, none), (.pure, none), (.pure, none)] rfl ?_
        show DL _ _ _ _ _ _ _ _ _ _ [0, 1, 2] _ _
        refine DL.pu 16 (.int .u64 x4_196) rfl (p_move rfl rfl) ?_
        refine DL.pu 17 (.int .u64 (IntKind.u64.wrap (x4_196 + 1))) rfl (p_add rfl rfl rfl) ?_
        refine DL.pu 4 (.int .u64 (IntKind.u64.wrap (x4_196 + 1))) rfl (p_assign rfl rfl) ?_
        refine DL.nil ?_
        refine TT.inLoop ?_
        exact TT.weak (ih q267 (IntKind.u64.wrap (x4_196 + 1)) r0_ h269 hk) (Sub.cons rfl (Sub.cons rfl (Sub.cons rfl (Sub.cons rfl (Sub.cons rfl (Sub.nil _))))))
      · by_cases c271 : x3_195 = true
        · have h272 := ite_true c271 h268
          refine DL.pure (v := .int .u64 x2_9) rfl (Wn.yes c271 rfl rfl rfl rfl) rfl rfl rfl (p_move rfl rfl) ?_
          refine DL.pure (v := .int .u64 x4_196) rfl (Wn.yes c271 rfl rfl rfl rfl) rfl rfl rfl (p_move rfl rfl) ?_
          obtain ⟨g273, h274⟩ := req_some h272
          refine DL.pure (v := .int .u64 (Int.tmod x2_9 x4_196)) rfl (Wn.yes c271 rfl rfl rfl rfl) rfl rfl rfl (p_rem g273 rfl rfl rfl) ?_
          refine DL.pure (v := .bool ((Int.tmod x2_9 x4_196) != 0)) rfl (Wn.yes c271 rfl rfl rfl rfl) rfl rfl rfl (p_neq rfl rfl rfl) ?_
          refine DL.pu 24 (.bool ((Int.tmod x2_9 x4_196) != 0)) rfl (p_pick_t c271 rfl rfl rfl) ?_
          obtain rfl := Option.some.inj h274
          exact DL.weak J270 (Sub.cons rfl (Sub.cons rfl (Sub.cons rfl (Sub.cons rfl (Sub.cons rfl (Sub.nil _))))))
        · replace c271 := Bool.eq_false_iff.mpr c271
          have h275 := ite_false c271 h268
          refine DL.not (i := 2) rfl (Wn.no c271 rfl rfl rfl rfl) rfl rfl ?_
          refine DL.not (i := 3) rfl (Wn.no c271 rfl rfl rfl rfl) rfl rfl ?_
          refine DL.not (i := 4) rfl (Wn.no c271 rfl rfl rfl rfl) rfl rfl ?_
          refine DL.not (i := 5) rfl (Wn.no c271 rfl rfl rfl rfl) rfl rfl ?_
          refine DL.pu 24 (.bool false) rfl (p_pick_f c271 rfl rfl rfl) ?_
          obtain rfl := Option.some.inj h275
          exact DL.weak J270 (Sub.cons rfl (Sub.cons rfl (Sub.cons rfl (Sub.cons rfl (Sub.cons rfl (Sub.nil _))))))
    · replace c264 := Bool.eq_false_iff.mpr c264
      have h276 := ite_false c264 h263
      refine TT.cond_false (x := sub [1, 1, 0, 1, 0, 0, 1, 0, 0, 1, 0, 1, 0, 0, 0, 1, 0] B8) (y := sub [1, 1, 0, 1, 0, 0, 1, 0, 0, 1, 0, 1, 0, 0, 0, 1, 1] B8) rfl c264 ?_
      refine TT.exit rfl ?_
      obtain rfl := Option.some.inj h276
      exact TT.weak (hk) (Sub.cons rfl (Sub.cons rfl (Sub.cons rfl (Sub.cons rfl (Sub.nil _)))))

def ref05_Begin.L0 : Nat → (List Int) → (List Int) → Int → Option (List Int × List Int)
  | 0, _, _, _ => none
  | k + 1, y_7, y_8, x2_9 => if (decide ((y_7.length : Int) < 80)) = true then ((ref05_Begin.L1 x2_9 30 true 2).bind fun z3_260 => (if z3_260 = true then (some (decide ((y_8.length : Int) < 8))) else (some false)).bind fun q281 => (if q281 = true then ((ref05_root.f x2_9 2).bind fun t296 => req (y_8.length + [t296].length ≤ 1099511627776) (some (y_8 ++ [t296]))) else (some y_8)).bind fun j_o3_289 => (if z3_260 = true then ((ref05_root.f x2_9 3).bind fun t313 => req (y_7.length + [t313].length ≤ 1099511627776) (some (y_7 ++ [t313]))) else (some y_7)).bind fun j_o4_306 => ref05_Begin.L0 k j_o4_306 j_o3_289 (IntKind.u64.wrap (x2_9 + 1))) else (some (y_7, y_8))
set_option maxRecDepth 20000 in
theorem ref05_Begin.L0_ok (b1 : Nat) (b2 : Nat) {R : Ending → World → Prop} {w0 : World} {M0 M I : Mem} {K : List Item} (hE : Env w0 M0 M I) :
    ∀ (k : Nat) (y_7 : List Int) (y_8 : List Int) (x2_9 : Int) (y_7_v : Value) (y_7_c : Array Value) (y_8_v : Value) (y_8_c : Array Value) (r0_ : List Int) (r1_ : List Int) (ho_y_7 : IntOwn .u64 y_7_v y_7_c y_7) (ho_y_8 : IntOwn .u64 y_8_v y_8_c y_8) (h : ref05_Begin.L0 k y_7 y_8 x2_9 = some (r0_, r1_)) (hk : ∀ (z_o4_191_v : Value), ∀ (z_o4_191_c : Array Value), ∀ (z_o3_192_v : Value), ∀ (z_o3_192_c : Array Value), IntOwn .u64 z_o4_191_v z_o4_191_c r0_ → IntOwn .u64 z_o3_192_v z_o3_192_c r1_ → TT Try.prog 8 R 48 w0 I K [(0, ptr b1 0), (1, ptr b2 0)] [(Value.ownBlock (.slice none 0 0), .cells (#[]) 35 (0, 0)), (Value.ownBlock (.slice none 0 0), .cells (#[]) 35 (0, 0)), (Value.ownBlock z_o4_191_v, .cells z_o4_191_c 35 (0, 0)), (Value.ownBlock z_o3_192_v, .cells z_o3_192_c 35 (0, 0)), (some b2, .cells (#[z_o3_192_v, z_o4_191_v]) 33 (0, 0)), (some b1, .cells (#[(.slice none 0 0), (.slice none 0 0)]) 33 (0, 0))]),
      TT Try.prog 8 R 48 w0 I (.code (sub [1, 1, 0, 1, 0, 0] B8) :: .inLoop (sub [1, 1, 0, 1, 0, 0] B8) :: .inBlock 0 :: K) [(0, ptr b1 0), (1, ptr b2 0), (2, .int .u64 x2_9)] [(Value.ownBlock (.slice none 0 0), .cells (#[]) 35 (0, 0)), (Value.ownBlock (.slice none 0 0), .cells (#[]) 35 (0, 0)), (Value.ownBlock y_7_v, .cells y_7_c 35 (0, 0)), (Value.ownBlock y_8_v, .cells y_8_c 35 (0, 0)), (some b2, .cells (#[y_8_v, y_7_v]) 33 (0, 0)), (some b1, .cells (#[(.slice none 0 0), (.slice none 0 0)]) 33 (0, 0))] := by
  intro k
  induction k with
  | zero => intro y_7 y_8 x2_9 y_7_v y_7_c y_8_v y_8_c r0_ r1_ ho_y_7 ho_y_8 h; simp [ref05_Begin.L0] at h
  | succ k ih =>
    intro y_7 y_8 x2_9 y_7_v y_7_c y_8_v y_8_c r0_ r1_ ho_y_7 ho_y_8 h hk
    unfold ref05_Begin.L0 at h
    refine TT.seq (x := sub [1, 1, 0, 1, 0, 0, 0] B8) (y := sub [1, 1, 0, 1, 0, 0, 1] B8) ?_
    refine TT.seq (x := sub [1, 1, 0, 1, 0, 0, 0, 0] B8) (y := sub [1, 1, 0, 1, 0, 0, 0, 1] B8) ?_
    refine TT.region (id := 3) (n := 4) (ops := (opsOf (sub [1, 1, 0, 1, 0, 0, 0, 0] B8))) [(.pure, none), (.quiet, none), (.pure, none), (.pure, none)] rfl ?_
    show DL _ _ _ _ _ _ _ _ _ _ [0, 1, 2, 3] _ _
    refine DL.pu 5 (ptr b2 1) rfl (p_fieldAddr ty_f33_1 rfl rfl) ?_
    refine DL.qu 6 (y_7_v) rfl (f_load (j := 4) ty_a31 rfl rfl rfl rfl) ?_
    refine DL.pu 7 (.int .i64 (y_7.length : Int)) rfl (p_slLen ty_u31 (OwnV.sl ho_y_7) rfl rfl) ?_
    refine DL.pu 8 (.bool (decide ((y_7.length : Int) < 80))) rfl (p_lss rfl rfl rfl) ?_
    refine DL.nil ?_
    by_cases c193 : (decide ((y_7.length : Int) < 80)) = true
    · have h194 := ite_true c193 h
      refine TT.cond_true (x := sub [1, 1, 0, 1, 0, 0, 0, 1, 0] B8) (y := sub [1, 1, 0, 1, 0, 0, 0, 1, 1] B8) rfl c193 ?_
      refine TT.skip ?_
      refine TT.seq (x := sub [1, 1, 0, 1, 0, 0, 1, 0] B8) (y := sub [1, 1, 0, 1, 0, 0, 1, 1] B8) ?_
      refine TT.block (c := sub [1, 1, 0, 1, 0, 0, 1, 0, 0] B8) ?_
      refine TT.seq (x := sub [1, 1, 0, 1, 0, 0, 1, 0, 0, 0] B8) (y := sub [1, 1, 0, 1, 0, 0, 1, 0, 0, 1] B8) ?_
      refine TT.region (id := 5) (n := 1) (ops := (opsOf (sub [1, 1, 0, 1, 0, 0, 1, 0, 0, 0] B8))) [(.pure, none)] rfl ?_
      show DL _ _ _ _ _ _ _ _ _ _ [0] _ _
      refine DL.pu 3 (.bool true) rfl (p_assign rfl rfl) ?_
      refine DL.nil ?_
      refine TT.seq (x := sub [1, 1, 0, 1, 0, 0, 1, 0, 0, 1, 0] B8) (y := sub [1, 1, 0, 1, 0, 0, 1, 0, 0, 1, 1] B8) ?_
      refine TT.seq (x := sub [1, 1, 0, 1, 0, 0, 1, 0, 0, 1, 0, 0] B8) (y := sub [1, 1, 0, 1, 0, 0, 1, 0, 0, 1, 0, 1] B8) ?_
      refine TT.region (id := 6) (n := 1) (ops := (opsOf (sub [1, 1, 0, 1, 0, 0, 1, 0, 0, 1, 0, 0] B8))) [(.pure, none)] rfl ?_
      show DL _ _ _ _ _ _ _ _ _ _ [0] _ _
      refine DL.pu 4 (.int .u64 2) rfl (p_assign rfl rfl) ?_
      refine DL.nil ?_
      refine TT.block (c := sub [1, 1, 0, 1, 0, 0, 1, 0, 0, 1, 0, 1, 0] B8) ?_
      refine TT.loop (c := sub [1, 1, 0, 1, 0, 0, 1, 0, 0, 1, 0, 1, 0, 0] B8) ?_
      obtain ⟨z3_260, h277, h278⟩ := bind_some h194
      refine TT.weak (ref05_Begin.L1_ok b1 b2 y_7_v y_7_c y_8_v y_8_c x2_9 hE 30 true 2 z3_260 h277 ( ?_)) (Sub.cons rfl (Sub.cons rfl (Sub.cons rfl (Sub.cons rfl (Sub.cons rfl (Sub.nil _))))))
      refine TT.seq (x := sub [1, 1, 0, 1, 0, 0, 1, 0, 0, 1, 1, 0] B8) (y := sub [1, 1, 0, 1, 0, 0, 1, 0, 0, 1, 1, 1] B8) ?_
      refine TT.seq (x := sub [1, 1, 0, 1, 0, 0, 1, 0, 0, 1, 1, 0, 0] B8) (y := sub [1, 1, 0, 1, 0, 0, 1, 0, 0, 1, 1, 0, 1] B8) ?_
      refine TT.region (id := 10) (n := 7) (ops := (opsOf (sub [1, 1, 0, 1, 0, 0, 1, 0, 0, 1, 1, 0, 0] B8))) [(.pure, none), (.pure, none), (.pure, none), (.quiet, none), (.pure, none), (.pure, none), (.pure, none)] rfl ?_
      show DL _ _ _ _ _ _ _ _ _ _ [0, 1, 2, 3, 4, 5, 6] _ _
      refine DL.pu 25 (.bool z3_260) rfl (p_move rfl rfl) ?_
      refine DL.pu 26 (.bool z3_260) rfl (p_move rfl rfl) ?_
      obtain ⟨q281, h282, h283⟩ := bind_some h278
      refine DL.cut [(0, ptr b1 0), (1, ptr b2 0), (2, .int .u64 x2_9), (3, .bool z3_260), (31, .bool q281)] [] ?_ (fun J284 => ?_)
      · refine DL.nil ?_
        obtain ⟨j_o3_289, h290, h291⟩ := bind_some h283
        have J292 : ∀ (j_o3_289_v : Value), ∀ (j_o3_289_c : Array Value), IntOwn .u64 j_o3_289_v j_o3_289_c j_o3_289 → TT Try.prog 8 R 48 w0 I (.code (sub [1, 1, 0, 1, 0, 0, 1, 0, 0, 1, 1, 1] B8) :: .inBlock 1 :: .code (sub [1, 1, 0, 1, 0, 0, 1, 1] B8) :: .inLoop (sub [1, 1, 0, 1, 0, 0] B8) :: .inBlock 0 :: K) [(0, ptr b1 0), (1, ptr b2 0), (2, .int .u64 x2_9), (3, .bool z3_260)] [(Value.ownBlock (.slice none 0 0), .cells (#[]) 35 (0, 0)), (Value.ownBlock (.slice none 0 0), .cells (#[]) 35 (0, 0)), (Value.ownBlock y_7_v, .cells y_7_c 35 (0, 0)), (Value.ownBlock j_o3_289_v, .cells j_o3_289_c 35 (0, 0)), (some b2, .cells (#[j_o3_289_v, y_7_v]) 33 (0, 0)), (some b1, .cells (#[(.slice none 0 0), (.slice none 0 0)]) 33 (0, 0))] := by
          intro j_o3_289_v j_o3_289_c ho_j_o3_289
          refine TT.seq (x := sub [1, 1, 0, 1, 0, 0, 1, 0, 0, 1, 1, 1, 0] B8) (y := sub [1, 1, 0, 1, 0, 0, 1, 0, 0, 1, 1, 1, 1] B8) ?_
          refine TT.region (id := 12) (n := 1) (ops := (opsOf (sub [1, 1, 0, 1, 0, 0, 1, 0, 0, 1, 1, 1, 0] B8))) [(.pure, none)] rfl ?_
          show DL _ _ _ _ _ _ _ _ _ _ [0] _ _
          refine DL.pu 39 (.bool z3_260) rfl (p_move rfl rfl) ?_
          refine DL.nil ?_
          obtain ⟨j_o4_306, h307, h308⟩ := bind_some h291
          have J309 : ∀ (j_o4_306_v : Value), ∀ (j_o4_306_c : Array Value), IntOwn .u64 j_o4_306_v j_o4_306_c j_o4_306 → TT Try.prog 8 R 48 w0 I (.inBlock 1 :: .code (sub [1, 1, 0, 1, 0, 0, 1, 1] B8) :: .inLoop (sub [1, 1, 0, 1, 0, 0] B8) :: .inBlock 0 :: K) [(0, ptr b1 0), (1, ptr b2 0), (2, .int .u64 x2_9)] [(Value.ownBlock (.slice none 0 0), .cells (#[]) 35 (0, 0)), (Value.ownBlock (.slice none 0 0), .cells (#[]) 35 (0, 0)), (Value.ownBlock j_o4_306_v, .cells j_o4_306_c 35 (0, 0)), (Value.ownBlock j_o3_289_v, .cells j_o3_289_c 35 (0, 0)), (some b2, .cells (#[j_o3_289_v, j_o4_306_v]) 33 (0, 0)), (some b1, .cells (#[(.slice none 0 0), (.slice none 0 0)]) 33 (0, 0))] := by
            intro j_o4_306_v j_o4_306_c ho_j_o4_306
            refine TT.inBlock ?_
            refine TT.region (id := 4) (n := 3) (ops := (opsOf (sub [1, 1, 0, 1, 0, 0, 1, 1] B8))) [(.pure, none), (.pure, none), (.pure, none)] rfl ?_
            show DL _ _ _ _ _ _ _ _ _ _ [0, 1, 2] _ _
            refine DL.pu 9 (.int .u64 x2_9) rfl (p_move rfl rfl) ?_
            refine DL.pu 10 (.int .u64 (IntKind.u64.wrap (x2_9 + 1))) rfl (p_add rfl rfl rfl) ?_
            refine DL.pu 2 (.int .u64 (IntKind.u64.wrap (x2_9 + 1))) rfl (p_assign rfl rfl) ?_
            refine DL.nil ?_
            refine TT.inLoop ?_
            exact TT.weak (ih j_o4_306 j_o3_289 (IntKind.u64.wrap (x2_9 + 1)) j_o4_306_v j_o4_306_c j_o3_289_v j_o3_289_c r0_ r1_ ho_j_o4_306 ho_j_o3_289 h308 hk) (Sub.cons rfl (Sub.cons rfl (Sub.cons rfl (Sub.nil _))))
          by_cases c305 : z3_260 = true
          · have h311 := ite_true c305 h307
            refine TT.cond_true (x := sub [1, 1, 0, 1, 0, 0, 1, 0, 0, 1, 1, 1, 1, 0] B8) (y := sub [1, 1, 0, 1, 0, 0, 1, 0, 0, 1, 1, 1, 1, 1] B8) rfl c305 ?_
            refine TT.regionD (id := 13) (ops := (opsOf (sub [1, 1, 0, 1, 0, 0, 1, 0, 0, 1, 1, 1, 1, 0] B8))) [0, 1, 2, 3, 4, 5, 6, 7] [0, 1, 0, 4, 12, 31, 63, 127] [(.pure, none), (.look, some 4), (.pure, none), (.quiet, none), (.alloc, none), (.actx, none), (.pure, none), (.store, some 4)] mixed (by kernel_rfl) ?_
            intro w312 hl312 hj312 hz312
            refine DL.pu 40 (ptr b2 1) rfl (p_fieldAddr ty_f33_1 rfl rfl) ?_
            refine DL.look (v := y_7_v) (x := 4) (b := b2) (i := 1) rfl (Wn.none rfl) rfl rfl rfl rfl rfl (List.mem_of_getElem? (i := 4) rfl) (b_load ty_a31 rfl rfl rfl) ?_
            refine DL.pu 42 (.int .u64 x2_9) rfl (p_move rfl rfl) ?_
            obtain ⟨t313, h314, h315⟩ := bind_some h311
            refine DL.qu 43 (.int .u64 t313) rfl (f_callR rfl rfl (args_val (vs := [.int .u64 x2_9, .int .i64 3]) rfl) (fun w => enter15 _ w) (fun w hc => ref05_root.val h314 (M := M) w (hE.ext hc) )) ?_
            refine DL.newSl (zs := [t313]) (n := 1) rfl (by decide) (i := 4) rfl (Wn.none rfl) rfl rfl rfl (f_buildSl (n := 1) (zs := [t313]) (vs := [(0, .int .u64 t313)]) elem31 rfl rfl (by kernel_rfl) rfl (args_val2 rfl)) ?_
            intro s317_v s317_c ho_s317
            obtain ⟨g318, h319⟩ := req_some h315
            refine DL.appendI (fun s320_v s320_c => [(Value.ownBlock s317_v, .cells s317_c 35 (0, 0)), (Value.ownBlock (.slice none 0 0), .cells (#[]) 35 (0, 0)), (Value.ownBlock (.slice none 0 0), .cells (#[]) 35 (0, 0)), (Value.ownBlock s320_v, .cells s320_c 35 (0, 0)), (Value.ownBlock j_o3_289_v, .cells j_o3_289_c 35 (0, 0)), (some b2, .cells (#[j_o3_289_v, y_7_v]) 33 (0, 0)), (some b1, .cells (#[(.slice none 0 0), (.slice none 0 0)]) 33 (0, 0))]) elem31 (j := 3) rfl ho_y_7 g318 (by decide) (fun w hc => IntOwn.src (i := 0) ho_s317 hc rfl) (i := 5) rfl (Wn.none rfl) rfl rfl rfl rfl rfl rfl (fun _ _ => rfl) ?_
            intro s320_v s320_c ho_s320
            show DL _ _ _ _ _ _ _ _ _ _ _ _ [(Value.ownBlock s317_v, .cells s317_c 35 (0, 0)), (Value.ownBlock (.slice none 0 0), .cells (#[]) 35 (0, 0)), (Value.ownBlock (.slice none 0 0), .cells (#[]) 35 (0, 0)), (Value.ownBlock s320_v, .cells s320_c 35 (0, 0)), (Value.ownBlock j_o3_289_v, .cells j_o3_289_c 35 (0, 0)), (some b2, .cells (#[j_o3_289_v, y_7_v]) 33 (0, 0)), (some b1, .cells (#[(.slice none 0 0), (.slice none 0 0)]) 33 (0, 0))]
            refine DL.pu 46 (ptr b2 1) rfl (p_fieldAddr ty_f33_1 rfl rfl) ?_
            refine DL.put (H' := [(Value.ownBlock s317_v, .cells s317_c 35 (0, 0)), (Value.ownBlock (.slice none 0 0), .cells (#[]) 35 (0, 0)), (Value.ownBlock (.slice none 0 0), .cells (#[]) 35 (0, 0)), (Value.ownBlock s320_v, .cells s320_c 35 (0, 0)), (Value.ownBlock j_o3_289_v, .cells j_o3_289_c 35 (0, 0)), (some b2, .cells (#[j_o3_289_v, s320_v]) 33 (0, 0)), (some b1, .cells (#[(.slice none 0 0), (.slice none 0 0)]) 33 (0, 0))]) (i := 7) rfl (Wn.none rfl) rfl rfl (f_store (c := #[j_o3_289_v, y_7_v]) (v := s320_v) (off := 1) (j := 5) ty_s31 rfl (sl_cells (OwnV.sl ho_s320)) (of_decide_eq_true rfl) (sl_one (OwnV.sl ho_s320)) rfl rfl rfl) (keep_set (j := 5) hj312 rfl rfl rfl) ?_
            refine DL.nil' hl312 ?_
            obtain rfl := Option.some.inj h319
            exact TT.pick [1, 2, 3, 4, 5, 6] (by decide) (TT.weak (J309 s320_v s320_c ho_s320) (Sub.cons rfl (Sub.cons rfl (Sub.cons rfl (Sub.nil _)))))
          · replace c305 := Bool.eq_false_iff.mpr c305
            have h321 := ite_false c305 h307
            refine TT.cond_false (x := sub [1, 1, 0, 1, 0, 0, 1, 0, 0, 1, 1, 1, 1, 0] B8) (y := sub [1, 1, 0, 1, 0, 0, 1, 0, 0, 1, 1, 1, 1, 1] B8) rfl c305 ?_
            refine TT.skip ?_
            obtain rfl := Option.some.inj h321
            exact TT.weak (J309 y_7_v y_7_c ho_y_7) (Sub.cons rfl (Sub.cons rfl (Sub.cons rfl (Sub.nil _))))
        by_cases c288 : q281 = true
        · have h294 := ite_true c288 h290
          refine TT.cond_true (x := sub [1, 1, 0, 1, 0, 0, 1, 0, 0, 1, 1, 0, 1, 0] B8) (y := sub [1, 1, 0, 1, 0, 0, 1, 0, 0, 1, 1, 0, 1, 1] B8) rfl c288 ?_
          refine TT.regionD (id := 11) (ops := (opsOf (sub [1, 1, 0, 1, 0, 0, 1, 0, 0, 1, 1, 0, 1, 0] B8))) [0, 1, 2, 3, 4, 5, 6, 7] [0, 1, 0, 4, 12, 31, 63, 127] [(.pure, none), (.look, some 4), (.pure, none), (.quiet, none), (.alloc, none), (.actx, none), (.pure, none), (.store, some 4)] mixed (by kernel_rfl) ?_
          intro w295 hl295 hj295 hz295
          refine DL.pu 32 (ptr b2 0) rfl (p_fieldAddr ty_f33_0 rfl rfl) ?_
          refine DL.look (v := y_8_v) (x := 4) (b := b2) (i := 1) rfl (Wn.none rfl) rfl rfl rfl rfl rfl (List.mem_of_getElem? (i := 4) rfl) (b_load ty_a31 rfl rfl rfl) ?_
          refine DL.pu 34 (.int .u64 x2_9) rfl (p_move rfl rfl) ?_
          obtain ⟨t296, h297, h298⟩ := bind_some h294
          refine DL.qu 35 (.int .u64 t296) rfl (f_callR rfl rfl (args_val (vs := [.int .u64 x2_9, .int .i64 2]) rfl) (fun w => enter15 _ w) (fun w hc => ref05_root.val h297 (M := M) w (hE.ext hc) )) ?_
          refine DL.newSl (zs := [t296]) (n := 1) rfl (by decide) (i := 4) rfl (Wn.none rfl) rfl rfl rfl (f_buildSl (n := 1) (zs := [t296]) (vs := [(0, .int .u64 t296)]) elem31 rfl rfl (by kernel_rfl) rfl (args_val2 rfl)) ?_
          intro s300_v s300_c ho_s300
          obtain ⟨g301, h302⟩ := req_some h298
          refine DL.appendI (fun s303_v s303_c => [(Value.ownBlock s300_v, .cells s300_c 35 (0, 0)), (Value.ownBlock (.slice none 0 0), .cells (#[]) 35 (0, 0)), (Value.ownBlock (.slice none 0 0), .cells (#[]) 35 (0, 0)), (Value.ownBlock y_7_v, .cells y_7_c 35 (0, 0)), (Value.ownBlock s303_v, .cells s303_c 35 (0, 0)), (some b2, .cells (#[y_8_v, y_7_v]) 33 (0, 0)), (some b1, .cells (#[(.slice none 0 0), (.slice none 0 0)]) 33 (0, 0))]) elem31 (j := 4) rfl ho_y_8 g301 (by decide) (fun w hc => IntOwn.src (i := 0) ho_s300 hc rfl) (i := 5) rfl (Wn.none rfl) rfl rfl rfl rfl rfl rfl (fun _ _ => rfl) ?_
          intro s303_v s303_c ho_s303
          show DL _ _ _ _ _ _ _ _ _ _ _ _ [(Value.ownBlock s300_v, .cells s300_c 35 (0, 0)), (Value.ownBlock (.slice none 0 0), .cells (#[]) 35 (0, 0)), (Value.ownBlock (.slice none 0 0), .cells (#[]) 35 (0, 0)), (Value.ownBlock y_7_v, .cells y_7_c 35 (0, 0)), (Value.ownBlock s303_v, .cells s303_c 35 (0, 0)), (some b2, .cells (#[y_8_v, y_7_v]) 33 (0, 0)), (some b1, .cells (#[(.slice none 0 0), (.slice none 0 0)]) 33 (0, 0))]
          refine DL.pu 38 (ptr b2 0) rfl (p_fieldAddr ty_f33_0 rfl rfl) ?_
          refine DL.put (H' := [(Value.ownBlock s300_v, .cells s300_c 35 (0, 0)), (Value.ownBlock (.slice none 0 0), .cells (#[]) 35 (0, 0)), (Value.ownBlock (.slice none 0 0), .cells (#[]) 35 (0, 0)), (Value.ownBlock y_7_v, .cells y_7_c 35 (0, 0)), (Value.ownBlock s303_v, .cells s303_c 35 (0, 0)), (some b2, .cells (#[s303_v, y_7_v]) 33 (0, 0)), (some b1, .cells (#[(.slice none 0 0), (.slice none 0 0)]) 33 (0, 0))]) (i := 7) rfl (Wn.none rfl) rfl rfl (f_store (c := #[y_8_v, y_7_v]) (v := s303_v) (off := 0) (j := 5) ty_s31 rfl (sl_cells (OwnV.sl ho_s303)) (of_decide_eq_true rfl) (sl_one (OwnV.sl ho_s303)) rfl rfl rfl) (keep_set (j := 5) hj295 rfl rfl rfl) ?_
          refine DL.nil' hl295 ?_
          obtain rfl := Option.some.inj h302
          exact TT.pick [1, 2, 3, 4, 5, 6] (by decide) (TT.weak (J292 s303_v s303_c ho_s303) (Sub.cons rfl (Sub.cons rfl (Sub.cons rfl (Sub.cons rfl (Sub.nil _))))))
        · replace c288 := Bool.eq_false_iff.mpr c288
          have h304 := ite_false c288 h290
          refine TT.cond_false (x := sub [1, 1, 0, 1, 0, 0, 1, 0, 0, 1, 1, 0, 1, 0] B8) (y := sub [1, 1, 0, 1, 0, 0, 1, 0, 0, 1, 1, 0, 1, 1] B8) rfl c288 ?_
          refine TT.skip ?_
          obtain rfl := Option.some.inj h304
          exact TT.weak (J292 y_8_v y_8_c ho_y_8) (Sub.cons rfl (Sub.cons rfl (Sub.cons rfl (Sub.cons rfl (Sub.nil _)))))
      · by_cases c285 : z3_260 = true
        · have h286 := ite_true c285 h282
          refine DL.pure (v := ptr b2 0) rfl (Wn.yes c285 rfl rfl rfl rfl) rfl rfl rfl (p_fieldAddr ty_f33_0 rfl rfl) ?_
          refine DL.quiet (v := y_8_v) rfl (Wn.yes c285 rfl rfl rfl rfl) rfl rfl rfl (f_load (j := 4) ty_a31 rfl rfl rfl rfl) ?_
          refine DL.pure (v := .int .i64 (y_8.length : Int)) rfl (Wn.yes c285 rfl rfl rfl rfl) rfl rfl rfl (p_slLen ty_u31 (OwnV.sl ho_y_8) rfl rfl) ?_
          refine DL.pure (v := .bool (decide ((y_8.length : Int) < 8))) rfl (Wn.yes c285 rfl rfl rfl rfl) rfl rfl rfl (p_lss rfl rfl rfl) ?_
          refine DL.pu 31 (.bool (decide ((y_8.length : Int) < 8))) rfl (p_pick_t c285 rfl rfl rfl) ?_
          obtain rfl := Option.some.inj h286
          exact DL.weak J284 (Sub.cons rfl (Sub.cons rfl (Sub.cons rfl (Sub.cons rfl (Sub.cons rfl (Sub.nil _))))))
        · replace c285 := Bool.eq_false_iff.mpr c285
          have h287 := ite_false c285 h282
          refine DL.not (i := 2) rfl (Wn.no c285 rfl rfl rfl rfl) rfl rfl ?_
          refine DL.not (i := 3) rfl (Wn.no c285 rfl rfl rfl rfl) rfl rfl ?_
          refine DL.not (i := 4) rfl (Wn.no c285 rfl rfl rfl rfl) rfl rfl ?_
          refine DL.not (i := 5) rfl (Wn.no c285 rfl rfl rfl rfl) rfl rfl ?_
          refine DL.pu 31 (.bool false) rfl (p_pick_f c285 rfl rfl rfl) ?_
          obtain rfl := Option.some.inj h287
          exact DL.weak J284 (Sub.cons rfl (Sub.cons rfl (Sub.cons rfl (Sub.cons rfl (Sub.cons rfl (Sub.nil _))))))
    · replace c193 := Bool.eq_false_iff.mpr c193
      have h322 := ite_false c193 h
      refine TT.cond_false (x := sub [1, 1, 0, 1, 0, 0, 0, 1, 0] B8) (y := sub [1, 1, 0, 1, 0, 0, 0, 1, 1] B8) rfl c193 ?_
      refine TT.exit rfl ?_
      simp only [Option.some.injEq, Prod.mk.injEq] at h322
      obtain ⟨rfl, rfl⟩ := h322
      exact TT.weak (hk y_7_v y_7_c y_8_v y_8_c ho_y_7 ho_y_8) (Sub.cons rfl (Sub.cons rfl (Sub.nil _)))

def ref05_Begin.f : Option (Begun) := (ref05_Begin.L0 420 ([] : List Int) ([] : List Int) 2).bind fun (z_o4_191, z_o3_192) => some (Begun.mk z_o3_192 z_o4_191)
set_option maxRecDepth 20000 in
theorem ref05_Begin.ok {r : Begun} (h : ref05_Begin.f = some r) {M : Mem} (w : World) (hM : Ext M (heapOf w)) : Calls Try.prog 8 #[] w (PostF (G := Value × Value) (fun g => .agg #[(g.1), (g.2)]) (fun g M_ => (IntRow M_ .u64 (g.1) (Begun.start r)) ∧ (IntRow M_ .u64 (g.2) (Begun.k r))) M w) := by
  unfold ref05_Begin.f at h
  have hE := Env.start hM
  refine calls_of_TT (N := 48) (S := []) (c := B8) Try.func8 rfl rfl rfl (by simp) ?_
  show TT _ _ _ _ _ _ [.code (sub [] B8)] _ _
  refine TT.seq (x := sub [0] B8) (y := sub [1] B8) ?_
  refine TT.region (id := 0) (n := 1) (ops := (opsOf (sub [0] B8))) [(.alloc, none)] rfl ?_
  show DL _ _ _ _ _ _ _ _ _ _ [0] _ _
  refine DL.new (ob := .cells (#[(.slice none 0 0), (.slice none 0 0)]) 33) (mk := fun b => ptr b 0) (i := 0) rfl (Wn.none rfl) rfl rfl rfl (f_alloc ty_z33 rfl) ?_
  intro b1 hb1
  refine DL.nil ?_
  refine TT.seq (x := sub [1, 0] B8) (y := sub [1, 1] B8) ?_
  refine TT.region (id := 1) (n := 1) (ops := (opsOf (sub [1, 0] B8))) [(.alloc, none)] rfl ?_
  show DL _ _ _ _ _ _ _ _ _ _ [0] _ _
  refine DL.new (ob := .cells (#[(.slice none 0 0), (.slice none 0 0)]) 33) (mk := fun b => ptr b 0) (i := 0) rfl (Wn.none rfl) rfl rfl rfl (f_alloc ty_z33 rfl) ?_
  intro b2 hb2
  refine DL.nil ?_
  refine TT.seq (x := sub [1, 1, 0] B8) (y := sub [1, 1, 1] B8) ?_
  refine TT.seq (x := sub [1, 1, 0, 0] B8) (y := sub [1, 1, 0, 1] B8) ?_
  refine TT.region (id := 2) (n := 1) (ops := (opsOf (sub [1, 1, 0, 0] B8))) [(.pure, none)] rfl ?_
  show DL _ _ _ _ _ _ _ _ _ _ [0] _ _
  refine DL.pu 2 (.int .u64 2) rfl (p_assign rfl rfl) ?_
  refine DL.nil ?_
  refine TT.block (c := sub [1, 1, 0, 1, 0] B8) ?_
  refine TT.nilOwn (e := 35) ?_
  refine TT.nilOwn (e := 35) ?_
  refine TT.nilOwn (e := 35) ?_
  refine TT.nilOwn (e := 35) ?_
  refine TT.loop (c := sub [1, 1, 0, 1, 0, 0] B8) ?_
  obtain ⟨⟨z_o4_191, z_o3_192⟩, h323, h324⟩ := bind_some h
  refine TT.weak (ref05_Begin.L0_ok b1 b2 hE 420 ([] : List Int) ([] : List Int) 2 (.slice none 0 0) (#[]) (.slice none 0 0) (#[]) z_o4_191 z_o3_192 (IntOwn.nil .u64) (IntOwn.nil .u64) h323 (fun z_o4_191_v z_o4_191_c z_o3_192_v z_o3_192_c ho_z_o4_191 ho_z_o3_192 => ?_)) (Sub.cons rfl (Sub.cons rfl (Sub.cons rfl (Sub.nil _))))
  refine TT.seq (x := sub [1, 1, 1, 0] B8) (y := sub [1, 1, 1, 1] B8) ?_
  refine TT.region (id := 14) (n := 2) (ops := (opsOf (sub [1, 1, 1, 0] B8))) [(.quiet, none), (.store, none)] rfl ?_
  show DL _ _ _ _ _ _ _ _ _ _ [0, 1] _ _
  refine DL.qu 47 (.agg #[z_o3_192_v, z_o4_191_v]) rfl (f_loadA (j := 4) ty_a33 ty_s33 rfl rfl rfl rfl) ?_
  refine DL.put (H' := [(Value.ownBlock (.slice none 0 0), .cells (#[]) 35 (0, 0)), (Value.ownBlock (.slice none 0 0), .cells (#[]) 35 (0, 0)), (Value.ownBlock z_o4_191_v, .cells z_o4_191_c 35 (0, 0)), (Value.ownBlock z_o3_192_v, .cells z_o3_192_c 35 (0, 0)), (some b2, .cells (#[z_o3_192_v, z_o4_191_v]) 33 (0, 0)), (some b1, .cells (#[z_o3_192_v, z_o4_191_v]) 33 (0, 0))]) (i := 1) rfl (Wn.none rfl) rfl rfl (f_storeA (j := 5) ty_s33 rfl rfl rfl (one_cons (sl_one (OwnV.sl ho_z_o3_192)) (one_cons (sl_one (OwnV.sl ho_z_o4_191)) one_nil)) rfl rfl rfl) (keep_none rfl) ?_
  refine DL.nil ?_
  refine TT.freezeAt (j := 3) hE rfl ?_
  intro M326 I326 hE326 hx326 hxI326 hb326
  have hr_326 : IntRow M326 .u64 z_o3_192_v z_o3_192 := IntOwn.stays ho_z_o3_192 hb326
  show TT _ _ _ _ _ _ _ _ [(Value.ownBlock (.slice none 0 0), .cells (#[]) 35 (0, 0)), (Value.ownBlock (.slice none 0 0), .cells (#[]) 35 (0, 0)), (Value.ownBlock z_o4_191_v, .cells z_o4_191_c 35 (0, 0)), (some b2, .cells (#[z_o3_192_v, z_o4_191_v]) 33 (0, 0)), (some b1, .cells (#[z_o3_192_v, z_o4_191_v]) 33 (0, 0))]
  refine TT.freezeAt (j := 2) hE326 rfl ?_
  intro M327 I327 hE327 hx327 hxI327 hb327
  have hr_327 : IntRow M327 .u64 z_o4_191_v z_o4_191 := IntOwn.stays ho_z_o4_191 hb327
  show TT _ _ _ _ _ _ _ _ [(Value.ownBlock (.slice none 0 0), .cells (#[]) 35 (0, 0)), (Value.ownBlock (.slice none 0 0), .cells (#[]) 35 (0, 0)), (some b2, .cells (#[z_o3_192_v, z_o4_191_v]) 33 (0, 0)), (some b1, .cells (#[z_o3_192_v, z_o4_191_v]) 33 (0, 0))]
  obtain rfl := Option.some.inj h324
  exact retF (rs := [.cell 0 33]) (vs := [.agg #[z_o3_192_v, z_o4_191_v]]) (z_o3_192_v, z_o4_191_v) hE327 Try.func8 rfl rfl rfl (res_cons (ResV.cell (j := 3) ty_a33 ty_s33 rfl rfl rfl) res_nil) ⟨(IntRow.mono hr_326 hx327), hr_327⟩

/-! ### escutcheon/sha.Start: function 10 -/
noncomputable def B10 : Code := bodyOf Try.f10
def sha_Start.f (a0 : Int) : Option (Int) := (if (decide (a0 < 0)) = true then (some true) else (some (decide (8 ≤ a0)))).bind fun q2 => if q2 = true then (some 0) else ((sha_all.f).bind fun t12 => req (0 ≤ a0) (req (a0 < 8) (some (t12.getD (0 + a0.toNat) 0))))
set_option maxRecDepth 20000 in
theorem sha_Start.ok {a0 : Int} {r : Int} (h : sha_Start.f a0 = some r) {M : Mem} (w : World) (hM : Ext M (heapOf w)) : Calls Try.prog 10 #[.int .i64 a0] w (Post (fun u => u = .int .u64 r) w) := by
  unfold sha_Start.f at h
  have hE := Env.start hM
  refine calls_of_TT (N := 15) (S := [(0, .int .i64 a0)]) (c := B10) Try.func10 rfl rfl rfl (by simp) ?_
  show TT _ _ _ _ _ _ [.code (sub [] B10)] _ _
  refine TT.seq (x := sub [0] B10) (y := sub [1] B10) ?_
  refine TT.region (id := 0) (n := 1) (ops := (opsOf (sub [0] B10))) [(.pure, none)] rfl ?_
  show DL _ _ _ _ _ _ _ _ _ _ [0] _ _
  refine DL.pu 2 (.int .u64 0) rfl (p_assign rfl rfl) ?_
  refine DL.nil ?_
  refine TT.seq (x := sub [1, 0] B10) (y := sub [1, 1] B10) ?_
  refine TT.seq (x := sub [1, 0, 0] B10) (y := sub [1, 0, 1] B10) ?_
  refine TT.region (id := 1) (n := 6) (ops := (opsOf (sub [1, 0, 0] B10))) [(.pure, none), (.pure, none), (.pure, none), (.pure, none), (.pure, none), (.pure, none)] rfl ?_
  show DL _ _ _ _ _ _ _ _ _ _ [0, 1, 2, 3, 4, 5] _ _
  refine DL.pu 3 (.int .i64 a0) rfl (p_move rfl rfl) ?_
  refine DL.pu 4 (.bool (decide (a0 < 0))) rfl (p_lss rfl rfl rfl) ?_
  refine DL.pu 5 (.bool (decide (a0 < 0))) rfl (p_move rfl rfl) ?_
  obtain ⟨q2, h3, h4⟩ := bind_some h
  refine DL.cut [(0, .int .i64 a0), (8, .bool q2)] [] ?_ (fun J5 => ?_)
  · refine DL.nil ?_
    by_cases c9 : q2 = true
    · have h10 := ite_true c9 h4
      refine TT.cond_true (x := sub [1, 0, 1, 0] B10) (y := sub [1, 0, 1, 1] B10) rfl c9 ?_
      refine TT.seq (x := sub [1, 0, 1, 0, 0] B10) (y := sub [1, 0, 1, 0, 1] B10) ?_
      refine TT.region (id := 2) (n := 1) (ops := (opsOf (sub [1, 0, 1, 0, 0] B10))) [(.pure, none)] rfl ?_
      show DL _ _ _ _ _ _ _ _ _ _ [0] _ _
      refine DL.pu 2 (.int .u64 0) rfl (p_assign rfl rfl) ?_
      refine DL.nil ?_
      obtain rfl := Option.some.inj h10
      exact retnE (rs := [.tmp 2]) (vs := [.int .u64 0]) hE.base Try.func10 rfl rfl rfl (res_cons (ResV.tmp rfl) res_nil) rfl
    · replace c9 := Bool.eq_false_iff.mpr c9
      have h11 := ite_false c9 h4
      refine TT.cond_false (x := sub [1, 0, 1, 0] B10) (y := sub [1, 0, 1, 1] B10) rfl c9 ?_
      refine TT.skip ?_
      refine TT.seq (x := sub [1, 1, 0] B10) (y := sub [1, 1, 1] B10) ?_
      refine TT.region (id := 3) (n := 7) (ops := (opsOf (sub [1, 1, 0] B10))) [(.keep, none), (.pure, none), (.pure, none), (.pure, none), (.pure, none), (.quiet, none), (.pure, none)] rfl ?_
      show DL _ _ _ _ _ _ _ _ _ _ [0, 1, 2, 3, 4, 5, 6] _ _
      obtain ⟨t12, h13, h14⟩ := bind_some h11
      refine DL.callF (G := Nat) (u := fun g => ptr g 0) (Q := fun g M_ => (t12.length = 88) ∧ (M_ g = some (.cells (enc .u64 t12) 45 (0, 0)))) (A := []) (J := []) (fun J15 => (J15)) (Nat.le_refl _) hE.nil (List.append_nil _).symm (fun _ => rfl) (by simp) (i := 0) rfl (Wn.none rfl) rfl rfl rfl rfl rfl rfl (args_val (vs := []) rfl) (fun w => enter11 _ w) (fun w hc hI => sha_all.ok h13 (M := M) w hI ) ?_
      rintro t12_b M15 J15 hE15 hx15 ⟨l_t12, hb_t12⟩
      show DL _ _ _ _ _ _ _ _ _ _ _ _ (J15)
      refine DL.pu 10 (.int .i64 a0) rfl (p_move rfl rfl) ?_
      refine DL.pu 11 (ptr t12_b 0) rfl (p_nilCheck rfl rfl) ?_
      refine DL.pu 12 (ptr t12_b 0) rfl (p_fieldAddr ty_f45_0 rfl rfl) ?_
      obtain ⟨g16, h17⟩ := req_some h14
      obtain ⟨g18, h19⟩ := req_some h17
      refine DL.pu 13 (ptr t12_b (0 + a0.toNat)) rfl (p_ixO ty_u42 ty_s35 g16 g18 rfl rfl rfl) ?_
      refine DL.qu 14 (.int .u64 (t12.getD (0 + a0.toNat) 0)) rfl (q_loadBoxO (fun w hc => hE15.immJ (A := []) hc rfl) hb_t12 (enc_atO (off := 0) l_t12 g16 g18 (by decide)) ty_a35 rfl rfl) ?_
      refine DL.pu 2 (.int .u64 (t12.getD (0 + a0.toNat) 0)) rfl (p_assign rfl rfl) ?_
      refine DL.nil ?_
      refine TT.settle (A := []) (J := J15) hE15 ?_
      intro I20 hE20 hxI20
      obtain rfl := Option.some.inj h19
      exact retnE (rs := [.tmp 2]) (vs := [.int .u64 (t12.getD (0 + a0.toNat) 0)]) hE20.base Try.func10 rfl rfl rfl (res_cons (ResV.tmp rfl) res_nil) rfl
  · by_cases c6 : (decide (a0 < 0)) = true
    · have h7 := ite_true c6 h3
      refine DL.not (i := 3) rfl (Wn.yes c6 rfl rfl rfl rfl) rfl rfl ?_
      refine DL.not (i := 4) rfl (Wn.yes c6 rfl rfl rfl rfl) rfl rfl ?_
      refine DL.pu 8 (.bool true) rfl (p_pick_t c6 rfl rfl rfl) ?_
      obtain rfl := Option.some.inj h7
      exact DL.weak J5 (Sub.cons rfl (Sub.cons rfl (Sub.nil _)))
    · replace c6 := Bool.eq_false_iff.mpr c6
      have h8 := ite_false c6 h3
      refine DL.pure (v := .int .i64 a0) rfl (Wn.no c6 rfl rfl rfl rfl) rfl rfl rfl (p_move rfl rfl) ?_
      refine DL.pure (v := .bool (decide (8 ≤ a0))) rfl (Wn.no c6 rfl rfl rfl rfl) rfl rfl rfl (p_geq rfl rfl rfl) ?_
      refine DL.pu 8 (.bool (decide (8 ≤ a0))) rfl (p_pick_f c6 rfl rfl rfl) ?_
      obtain rfl := Option.some.inj h8
      exact DL.weak J5 (Sub.cons rfl (Sub.cons rfl (Sub.nil _)))
theorem sha_Start.val {a0 : Int} {r : Int} (h : sha_Start.f a0 = some r) {M : Mem} (w : World) (hM : Ext M (heapOf w)) : Calls Try.prog 10 #[.int .i64 a0] w fun e w' => e = .returned (.int .u64 r) ∧ Below w.heap.size w w' :=
  calls_value (sha_Start.ok h w hM)

/-! ### escutcheon/sha.Constant: function 9 -/
noncomputable def B9 : Code := bodyOf Try.f9
def sha_Constant.f (a0 : Int) : Option (Int) := (if (decide (a0 < 0)) = true then (some true) else (some (decide (80 ≤ a0)))).bind fun q2 => if q2 = true then (some 0) else ((sha_all.f).bind fun t12 => req (0 ≤ a0) (req (a0 < 80) (some (t12.getD (8 + a0.toNat) 0))))
set_option maxRecDepth 20000 in
theorem sha_Constant.ok {a0 : Int} {r : Int} (h : sha_Constant.f a0 = some r) {M : Mem} (w : World) (hM : Ext M (heapOf w)) : Calls Try.prog 9 #[.int .i64 a0] w (Post (fun u => u = .int .u64 r) w) := by
  unfold sha_Constant.f at h
  have hE := Env.start hM
  refine calls_of_TT (N := 15) (S := [(0, .int .i64 a0)]) (c := B9) Try.func9 rfl rfl rfl (by simp) ?_
  show TT _ _ _ _ _ _ [.code (sub [] B9)] _ _
  refine TT.seq (x := sub [0] B9) (y := sub [1] B9) ?_
  refine TT.region (id := 0) (n := 1) (ops := (opsOf (sub [0] B9))) [(.pure, none)] rfl ?_
  show DL _ _ _ _ _ _ _ _ _ _ [0] _ _
  refine DL.pu 2 (.int .u64 0) rfl (p_assign rfl rfl) ?_
  refine DL.nil ?_
  refine TT.seq (x := sub [1, 0] B9) (y := sub [1, 1] B9) ?_
  refine TT.seq (x := sub [1, 0, 0] B9) (y := sub [1, 0, 1] B9) ?_
  refine TT.region (id := 1) (n := 6) (ops := (opsOf (sub [1, 0, 0] B9))) [(.pure, none), (.pure, none), (.pure, none), (.pure, none), (.pure, none), (.pure, none)] rfl ?_
  show DL _ _ _ _ _ _ _ _ _ _ [0, 1, 2, 3, 4, 5] _ _
  refine DL.pu 3 (.int .i64 a0) rfl (p_move rfl rfl) ?_
  refine DL.pu 4 (.bool (decide (a0 < 0))) rfl (p_lss rfl rfl rfl) ?_
  refine DL.pu 5 (.bool (decide (a0 < 0))) rfl (p_move rfl rfl) ?_
  obtain ⟨q2, h3, h4⟩ := bind_some h
  refine DL.cut [(0, .int .i64 a0), (8, .bool q2)] [] ?_ (fun J5 => ?_)
  · refine DL.nil ?_
    by_cases c9 : q2 = true
    · have h10 := ite_true c9 h4
      refine TT.cond_true (x := sub [1, 0, 1, 0] B9) (y := sub [1, 0, 1, 1] B9) rfl c9 ?_
      refine TT.seq (x := sub [1, 0, 1, 0, 0] B9) (y := sub [1, 0, 1, 0, 1] B9) ?_
      refine TT.region (id := 2) (n := 1) (ops := (opsOf (sub [1, 0, 1, 0, 0] B9))) [(.pure, none)] rfl ?_
      show DL _ _ _ _ _ _ _ _ _ _ [0] _ _
      refine DL.pu 2 (.int .u64 0) rfl (p_assign rfl rfl) ?_
      refine DL.nil ?_
      obtain rfl := Option.some.inj h10
      exact retnE (rs := [.tmp 2]) (vs := [.int .u64 0]) hE.base Try.func9 rfl rfl rfl (res_cons (ResV.tmp rfl) res_nil) rfl
    · replace c9 := Bool.eq_false_iff.mpr c9
      have h11 := ite_false c9 h4
      refine TT.cond_false (x := sub [1, 0, 1, 0] B9) (y := sub [1, 0, 1, 1] B9) rfl c9 ?_
      refine TT.skip ?_
      refine TT.seq (x := sub [1, 1, 0] B9) (y := sub [1, 1, 1] B9) ?_
      refine TT.region (id := 3) (n := 7) (ops := (opsOf (sub [1, 1, 0] B9))) [(.keep, none), (.pure, none), (.pure, none), (.pure, none), (.pure, none), (.quiet, none), (.pure, none)] rfl ?_
      show DL _ _ _ _ _ _ _ _ _ _ [0, 1, 2, 3, 4, 5, 6] _ _
      obtain ⟨t12, h13, h14⟩ := bind_some h11
      refine DL.callF (G := Nat) (u := fun g => ptr g 0) (Q := fun g M_ => (t12.length = 88) ∧ (M_ g = some (.cells (enc .u64 t12) 45 (0, 0)))) (A := []) (J := []) (fun J15 => (J15)) (Nat.le_refl _) hE.nil (List.append_nil _).symm (fun _ => rfl) (by simp) (i := 0) rfl (Wn.none rfl) rfl rfl rfl rfl rfl rfl (args_val (vs := []) rfl) (fun w => enter11 _ w) (fun w hc hI => sha_all.ok h13 (M := M) w hI ) ?_
      rintro t12_b M15 J15 hE15 hx15 ⟨l_t12, hb_t12⟩
      show DL _ _ _ _ _ _ _ _ _ _ _ _ (J15)
      refine DL.pu 10 (.int .i64 a0) rfl (p_move rfl rfl) ?_
      refine DL.pu 11 (ptr t12_b 0) rfl (p_nilCheck rfl rfl) ?_
      refine DL.pu 12 (ptr t12_b 8) rfl (p_fieldAddr ty_f45_1 rfl rfl) ?_
      obtain ⟨g16, h17⟩ := req_some h14
      obtain ⟨g18, h19⟩ := req_some h17
      refine DL.pu 13 (ptr t12_b (8 + a0.toNat)) rfl (p_ixO ty_u43 ty_s35 g16 g18 rfl rfl rfl) ?_
      refine DL.qu 14 (.int .u64 (t12.getD (8 + a0.toNat) 0)) rfl (q_loadBoxO (fun w hc => hE15.immJ (A := []) hc rfl) hb_t12 (enc_atO (off := 8) l_t12 g16 g18 (by decide)) ty_a35 rfl rfl) ?_
      refine DL.pu 2 (.int .u64 (t12.getD (8 + a0.toNat) 0)) rfl (p_assign rfl rfl) ?_
      refine DL.nil ?_
      refine TT.settle (A := []) (J := J15) hE15 ?_
      intro I20 hE20 hxI20
      obtain rfl := Option.some.inj h19
      exact retnE (rs := [.tmp 2]) (vs := [.int .u64 (t12.getD (8 + a0.toNat) 0)]) hE20.base Try.func9 rfl rfl rfl (res_cons (ResV.tmp rfl) res_nil) rfl
  · by_cases c6 : (decide (a0 < 0)) = true
    · have h7 := ite_true c6 h3
      refine DL.not (i := 3) rfl (Wn.yes c6 rfl rfl rfl rfl) rfl rfl ?_
      refine DL.not (i := 4) rfl (Wn.yes c6 rfl rfl rfl rfl) rfl rfl ?_
      refine DL.pu 8 (.bool true) rfl (p_pick_t c6 rfl rfl rfl) ?_
      obtain rfl := Option.some.inj h7
      exact DL.weak J5 (Sub.cons rfl (Sub.cons rfl (Sub.nil _)))
    · replace c6 := Bool.eq_false_iff.mpr c6
      have h8 := ite_false c6 h3
      refine DL.pure (v := .int .i64 a0) rfl (Wn.no c6 rfl rfl rfl rfl) rfl rfl rfl (p_move rfl rfl) ?_
      refine DL.pure (v := .bool (decide (80 ≤ a0))) rfl (Wn.no c6 rfl rfl rfl rfl) rfl rfl rfl (p_geq rfl rfl rfl) ?_
      refine DL.pu 8 (.bool (decide (80 ≤ a0))) rfl (p_pick_f c6 rfl rfl rfl) ?_
      obtain rfl := Option.some.inj h8
      exact DL.weak J5 (Sub.cons rfl (Sub.cons rfl (Sub.nil _)))
theorem sha_Constant.val {a0 : Int} {r : Int} (h : sha_Constant.f a0 = some r) {M : Mem} (w : World) (hM : Ext M (heapOf w)) : Calls Try.prog 9 #[.int .i64 a0] w fun e w' => e = .returned (.int .u64 r) ∧ Below w.heap.size w w' :=
  calls_value (sha_Constant.ok h w hM)

end Go.Proofs.Ytlpodhejgcmbpaa
