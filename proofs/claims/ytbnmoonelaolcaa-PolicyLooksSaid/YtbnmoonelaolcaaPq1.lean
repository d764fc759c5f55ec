import Derived.Test.YtbnmoonelaolcaaHw16
import Derived.Test.YtbnmoonelaolcaaPqLib
namespace Go.Proofs.Ytbnmoonelaolcaa
open Go Go.HW Go.RowKit
set_option linter.unusedVariables false
set_option linter.unusedSimpArgs false

theorem mixed : Try.prog.follows .mixedOrders = true := by kernel_rfl
theorem enter34 (args : Array Value) (w : World) : (callFunc 34 args).run Try.prog w = .ok (.enter 34 args) w := by kernel_rfl
theorem ty_f26_0 (a : Addr) (w : World) : (Instr.fieldAt 26 (.pointer (some a)) 0).run Try.prog w = .ok (.pointer (some (a.add 0))) w := by kernel_rfl
theorem ty_a22 (w : World) : (isAgg 22).run Try.prog w = .ok false w := by kernel_rfl
theorem enter25 (args : Array Value) (w : World) : (callFunc 25 args).run Try.prog w = .ok (.enter 25 args) w := by kernel_rfl
theorem ty_f26_1 (a : Addr) (w : World) : (Instr.fieldAt 26 (.pointer (some a)) 1).run Try.prog w = .ok (.pointer (some (a.add 1))) w := by kernel_rfl
theorem ty_a23 (w : World) : (isAgg 23).run Try.prog w = .ok false w := by kernel_rfl
theorem ty_f26_3 (a : Addr) (w : World) : (Instr.fieldAt 26 (.pointer (some a)) 3).run Try.prog w = .ok (.pointer (some (a.add 3))) w := by kernel_rfl
theorem ty_a24 (w : World) : (isAgg 24).run Try.prog w = .ok false w := by kernel_rfl
theorem enter31 (args : Array Value) (w : World) : (callFunc 31 args).run Try.prog w = .ok (.enter 31 args) w := by kernel_rfl
theorem ty_f26_2 (a : Addr) (w : World) : (Instr.fieldAt 26 (.pointer (some a)) 2).run Try.prog w = .ok (.pointer (some (a.add 2))) w := by kernel_rfl
theorem enter26 (args : Array Value) (w : World) : (callFunc 26 args).run Try.prog w = .ok (.enter 26 args) w := by kernel_rfl
theorem enter32 (args : Array Value) (w : World) : (callFunc 32 args).run Try.prog w = .ok (.enter 32 args) w := by kernel_rfl
theorem ty_a26 (w : World) : (isAgg 26).run Try.prog w = .ok true w := by kernel_rfl
theorem ty_s26 (w : World) : (sizeOf 26).run Try.prog w = .ok 4 w := by kernel_rfl
theorem enter22 (args : Array Value) (w : World) : (callFunc 22 args).run Try.prog w = .ok (.enter 22 args) w := by kernel_rfl
theorem enter23 (args : Array Value) (w : World) : (callFunc 23 args).run Try.prog w = .ok (.enter 23 args) w := by kernel_rfl
theorem ty_z26 (w : World) : (zeroValue 26).run Try.prog w = .ok (.agg #[.int .i64 0, .int .i64 0, .int .i64 0, .int .i64 0]) w := by kernel_rfl
theorem ty_s24 (w : World) : (sizeOf 24).run Try.prog w = .ok 1 w := by kernel_rfl
theorem enter29 (args : Array Value) (w : World) : (callFunc 29 args).run Try.prog w = .ok (.enter 29 args) w := by kernel_rfl
theorem enter30 (args : Array Value) (w : World) : (callFunc 30 args).run Try.prog w = .ok (.enter 30 args) w := by kernel_rfl
theorem enter7 (args : Array Value) (w : World) : (callFunc 7 args).run Try.prog w = .ok (.enter 7 args) w := by kernel_rfl
theorem enter15 (args : Array Value) (w : World) : (callFunc 15 args).run Try.prog w = .ok (.enter 15 args) w := by kernel_rfl
theorem ty_ue24 : Try.prog.underlying 24 = some (.int .i64) := by kernel_rfl
theorem ty_ue23 : Try.prog.underlying 23 = some (.int .i64) := by kernel_rfl
theorem ty_ue22 : Try.prog.underlying 22 = some (.int .i64) := by kernel_rfl
theorem eqs26 {d : Nat} (a0 a1 a2 a3 b0 b1 b2 b3 : Int) (w : World) : (Op.equalIn (d + 2) 26 (.agg #[.int .i64 a0, .int .i64 a1, .int .i64 a2, .int .i64 a3]) (.agg #[.int .i64 b0, .int .i64 b1, .int .i64 b2, .int .i64 b3])).run Try.prog w = .ok (a0 == b0 && (a1 == b1 && (a2 == b2 && (a3 == b3 && true)))) w :=
  eq_struct (fs := (match Try.prog.underlying 26 with | some (.struct fs) => fs.toList | _ => [])) (by kernel_rfl) (by kernel_rfl) (show (Op.eqFields (d + 1) _ _ (match Try.prog.underlying 26 with | some (.struct fs) => fs.toList | _ => [])).run _ _ = _ from eq_more rfl (run_part ty_a22 rfl) (run_part ty_a22 rfl) (run_equalIn_int w d 22 .i64 .i64 a0 b0 ty_ue22) (eq_more rfl (run_part ty_a23 rfl) (run_part ty_a23 rfl) (run_equalIn_int w d 23 .i64 .i64 a1 b1 ty_ue23) (eq_more rfl (run_part ty_a24 rfl) (run_part ty_a24 rfl) (run_equalIn_int w d 24 .i64 .i64 a2 b2 ty_ue24) (eq_more rfl (run_part ty_a24 rfl) (run_part ty_a24 rfl) (run_equalIn_int w d 24 .i64 .i64 a3 b3 ty_ue24) (eq_none)))))
theorem ty_g26 : Try.prog.eqGuardType Try.prog.depth 26 = false := by kernel_rfl
theorem enter21 (args : Array Value) (w : World) : (callFunc 21 args).run Try.prog w = .ok (.enter 21 args) w := by kernel_rfl
theorem elem59 : Elem Try.prog 59 9 1 16 (str ([] : List UInt8)) := Elem.of (by kernel_rfl) (by kernel_rfl) rfl (by decide)
theorem ty_u59 (w : World) : (underlying 59).run Try.prog w = .ok (.slice 9) w := by kernel_rfl
theorem ty_s9 (w : World) : (sizeOf 9).run Try.prog w = .ok 1 w := by kernel_rfl
theorem ty_a9 (w : World) : (isAgg 9).run Try.prog w = .ok false w := by kernel_rfl
theorem enter37 (args : Array Value) (w : World) : (callFunc 37 args).run Try.prog w = .ok (.enter 37 args) w := by kernel_rfl
theorem ty_u3 (w : World) : (underlying 3).run Try.prog w = .ok (.int .i64) w := by kernel_rfl
theorem ty_u61 (w : World) : (underlying 61).run Try.prog w = .ok (.int .u64) w := by kernel_rfl
theorem ty_u4 (w : World) : (underlying 4).run Try.prog w = .ok (.bool) w := by kernel_rfl
theorem enter24 (args : Array Value) (w : World) : (callFunc 24 args).run Try.prog w = .ok (.enter 24 args) w := by kernel_rfl
theorem enter27 (args : Array Value) (w : World) : (callFunc 27 args).run Try.prog w = .ok (.enter 27 args) w := by kernel_rfl
theorem enter28 (args : Array Value) (w : World) : (callFunc 28 args).run Try.prog w = .ok (.enter 28 args) w := by kernel_rfl
theorem enter16 (args : Array Value) (w : World) : (callFunc 16 args).run Try.prog w = .ok (.enter 16 args) w := by kernel_rfl

/-! ### escutcheon/policy.OfType: function 25 -/
noncomputable def B25 : Code := bodyOf Try.f25
def policy_OfType.f (a0 : Int) : Option (Int) := if (a0 == 1) = true then (some 39) else (if (a0 == 2) = true then (some 43) else (if (a0 == 3) = true then (some 51) else (some 0)))
set_option maxRecDepth 20000 in
theorem policy_OfType.ok {a0 : Int} {r : Int} (h : policy_OfType.f a0 = some r) {M : Mem} (w : World) (hM : Ext M (heapOf w)) : Calls Try.prog 25 #[.int .i64 a0] w (Post (fun u => u = .int .i64 r) w) := by
  unfold policy_OfType.f at h
  have hE := Env.start hM
  refine calls_of_TT (N := 10) (S := [(0, .int .i64 a0)]) (c := B25) Try.func25 rfl rfl rfl (by simp) ?_
  show TT _ _ _ _ _ _ [.code (sub [] B25)] _ _
  refine TT.seq (x := sub [0] B25) (y := sub [1] B25) ?_
  refine TT.region (id := 0) (n := 1) (ops := (opsOf (sub [0] B25))) [(.pure, none)] rfl ?_
  show DL _ _ _ _ _ _ _ _ _ _ [0] _ _
  refine DL.pu 2 (.int .i64 0) rfl (p_assign rfl rfl) ?_
  refine DL.nil ?_
  refine TT.seq (x := sub [1, 0] B25) (y := sub [1, 1] B25) ?_
  refine TT.seq (x := sub [1, 0, 0] B25) (y := sub [1, 0, 1] B25) ?_
  refine TT.region (id := 1) (n := 1) (ops := (opsOf (sub [1, 0, 0] B25))) [(.pure, none)] rfl ?_
  show DL _ _ _ _ _ _ _ _ _ _ [0] _ _
  refine DL.pu 3 (.int .i64 a0) rfl (p_move rfl rfl) ?_
  refine DL.nil ?_
  refine TT.block (c := sub [1, 0, 1, 0] B25) ?_
  refine TT.seq (x := sub [1, 0, 1, 0, 0] B25) (y := sub [1, 0, 1, 0, 1] B25) ?_
  refine TT.region (id := 2) (n := 2) (ops := (opsOf (sub [1, 0, 1, 0, 0] B25))) [(.pure, none), (.pure, none)] rfl ?_
  show DL _ _ _ _ _ _ _ _ _ _ [0, 1] _ _
  refine DL.pu 5 (.bool (a0 == 1)) rfl (p_eql rfl rfl rfl) ?_
  refine DL.pu 4 (.bool (a0 == 1)) rfl (p_assign rfl rfl) ?_
  refine DL.nil ?_
  by_cases c1 : (a0 == 1) = true
  · have h2 := ite_true c1 h
    refine TT.cond_true (x := sub [1, 0, 1, 0, 1, 0] B25) (y := sub [1, 0, 1, 0, 1, 1] B25) rfl c1 ?_
    refine TT.seq (x := sub [1, 0, 1, 0, 1, 0, 0] B25) (y := sub [1, 0, 1, 0, 1, 0, 1] B25) ?_
    refine TT.region (id := 3) (n := 1) (ops := (opsOf (sub [1, 0, 1, 0, 1, 0, 0] B25))) [(.pure, none)] rfl ?_
    show DL _ _ _ _ _ _ _ _ _ _ [0] _ _
    refine DL.pu 2 (.int .i64 39) rfl (p_assign rfl rfl) ?_
    refine DL.nil ?_
    obtain rfl := Option.some.inj h2
    exact retnE (rs := [.tmp 2]) (vs := [.int .i64 39]) hE.base Try.func25 rfl rfl rfl (res_cons (ResV.tmp rfl) res_nil) rfl
  · replace c1 := Bool.eq_false_iff.mpr c1
    have h3 := ite_false c1 h
    refine TT.cond_false (x := sub [1, 0, 1, 0, 1, 0] B25) (y := sub [1, 0, 1, 0, 1, 1] B25) rfl c1 ?_
    refine TT.seq (x := sub [1, 0, 1, 0, 1, 1, 0] B25) (y := sub [1, 0, 1, 0, 1, 1, 1] B25) ?_
    refine TT.region (id := 4) (n := 2) (ops := (opsOf (sub [1, 0, 1, 0, 1, 1, 0] B25))) [(.pure, none), (.pure, none)] rfl ?_
    show DL _ _ _ _ _ _ _ _ _ _ [0, 1] _ _
    refine DL.pu 7 (.bool (a0 == 2)) rfl (p_eql rfl rfl rfl) ?_
    refine DL.pu 6 (.bool (a0 == 2)) rfl (p_assign rfl rfl) ?_
    refine DL.nil ?_
    by_cases c4 : (a0 == 2) = true
    · have h5 := ite_true c4 h3
      refine TT.cond_true (x := sub [1, 0, 1, 0, 1, 1, 1, 0] B25) (y := sub [1, 0, 1, 0, 1, 1, 1, 1] B25) rfl c4 ?_
      refine TT.seq (x := sub [1, 0, 1, 0, 1, 1, 1, 0, 0] B25) (y := sub [1, 0, 1, 0, 1, 1, 1, 0, 1] B25) ?_
      refine TT.region (id := 5) (n := 1) (ops := (opsOf (sub [1, 0, 1, 0, 1, 1, 1, 0, 0] B25))) [(.pure, none)] rfl ?_
      show DL _ _ _ _ _ _ _ _ _ _ [0] _ _
      refine DL.pu 2 (.int .i64 43) rfl (p_assign rfl rfl) ?_
      refine DL.nil ?_
      obtain rfl := Option.some.inj h5
      exact retnE (rs := [.tmp 2]) (vs := [.int .i64 43]) hE.base Try.func25 rfl rfl rfl (res_cons (ResV.tmp rfl) res_nil) rfl
    · replace c4 := Bool.eq_false_iff.mpr c4
      have h6 := ite_false c4 h3
      refine TT.cond_false (x := sub [1, 0, 1, 0, 1, 1, 1, 0] B25) (y := sub [1, 0, 1, 0, 1, 1, 1, 1] B25) rfl c4 ?_
      refine TT.seq (x := sub [1, 0, 1, 0, 1, 1, 1, 1, 0] B25) (y := sub [1, 0, 1, 0, 1, 1, 1, 1, 1] B25) ?_
      refine TT.region (id := 6) (n := 2) (ops := (opsOf (sub [1, 0, 1, 0, 1, 1, 1, 1, 0] B25))) [(.pure, none), (.pure, none)] rfl ?_
      show DL _ _ _ _ _ _ _ _ _ _ [0, 1] _ _
      refine DL.pu 9 (.bool (a0 == 3)) rfl (p_eql rfl rfl rfl) ?_
      refine DL.pu 8 (.bool (a0 == 3)) rfl (p_assign rfl rfl) ?_
      refine DL.nil ?_
      by_cases c7 : (a0 == 3) = true
      · have h8 := ite_true c7 h6
        refine TT.cond_true (x := sub [1, 0, 1, 0, 1, 1, 1, 1, 1, 0] B25) (y := sub [1, 0, 1, 0, 1, 1, 1, 1, 1, 1] B25) rfl c7 ?_
        refine TT.seq (x := sub [1, 0, 1, 0, 1, 1, 1, 1, 1, 0, 0] B25) (y := sub [1, 0, 1, 0, 1, 1, 1, 1, 1, 0, 1] B25) ?_
        refine TT.region (id := 7) (n := 1) (ops := (opsOf (sub [1, 0, 1, 0, 1, 1, 1, 1, 1, 0, 0] B25))) [(.pure, none)] rfl ?_
        show DL _ _ _ _ _ _ _ _ _ _ [0] _ _
        refine DL.pu 2 (.int .i64 51) rfl (p_assign rfl rfl) ?_
        refine DL.nil ?_
        obtain rfl := Option.some.inj h8
        exact retnE (rs := [.tmp 2]) (vs := [.int .i64 51]) hE.base Try.func25 rfl rfl rfl (res_cons (ResV.tmp rfl) res_nil) rfl
      · replace c7 := Bool.eq_false_iff.mpr c7
        have h9 := ite_false c7 h6
        refine TT.cond_false (x := sub [1, 0, 1, 0, 1, 1, 1, 1, 1, 0] B25) (y := sub [1, 0, 1, 0, 1, 1, 1, 1, 1, 1] B25) rfl c7 ?_
        refine TT.skip ?_
        refine TT.inBlock ?_
        refine TT.seq (x := sub [1, 1, 0] B25) (y := sub [1, 1, 1] B25) ?_
        refine TT.region (id := 8) (n := 1) (ops := (opsOf (sub [1, 1, 0] B25))) [(.pure, none)] rfl ?_
        show DL _ _ _ _ _ _ _ _ _ _ [0] _ _
        refine DL.pu 2 (.int .i64 0) rfl (p_assign rfl rfl) ?_
        refine DL.nil ?_
        obtain rfl := Option.some.inj h9
        exact retnE (rs := [.tmp 2]) (vs := [.int .i64 0]) hE.base Try.func25 rfl rfl rfl (res_cons (ResV.tmp rfl) res_nil) rfl
theorem policy_OfType.val {a0 : Int} {r : Int} (h : policy_OfType.f a0 = some r) {M : Mem} (w : World) (hM : Ext M (heapOf w)) : Calls Try.prog 25 #[.int .i64 a0] w fun e w' => e = .returned (.int .i64 r) ∧ Below w.heap.size w w' :=
  calls_value (policy_OfType.ok h w hM)

/-! ### escutcheon/escutcheonref21.OfType: function 26 -/
noncomputable def B26 : Code := bodyOf Try.f26
def ref21_OfType.f (a0 : Int) : Option (Int) := if (a0 == 1) = true then (some 39) else (if (a0 == 2) = true then (some 43) else (if (a0 == 3) = true then (some 51) else (some 0)))
set_option maxRecDepth 20000 in
theorem ref21_OfType.ok {a0 : Int} {r : Int} (h : ref21_OfType.f a0 = some r) {M : Mem} (w : World) (hM : Ext M (heapOf w)) : Calls Try.prog 26 #[.int .i64 a0] w (Post (fun u => u = .int .i64 r) w) := by
  unfold ref21_OfType.f at h
  have hE := Env.start hM
  refine calls_of_TT (N := 10) (S := [(0, .int .i64 a0)]) (c := B26) Try.func26 rfl rfl rfl (by simp) ?_
  show TT _ _ _ _ _ _ [.code (sub [] B26)] _ _
  refine TT.seq (x := sub [0] B26) (y := sub [1] B26) ?_
  refine TT.region (id := 0) (n := 1) (ops := (opsOf (sub [0] B26))) [(.pure, none)] rfl ?_
  show DL _ _ _ _ _ _ _ _ _ _ [0] _ _
  refine DL.pu 2 (.int .i64 0) rfl (p_assign rfl rfl) ?_
  refine DL.nil ?_
  refine TT.seq (x := sub [1, 0] B26) (y := sub [1, 1] B26) ?_
  refine TT.seq (x := sub [1, 0, 0] B26) (y := sub [1, 0, 1] B26) ?_
  refine TT.region (id := 1) (n := 1) (ops := (opsOf (sub [1, 0, 0] B26))) [(.pure, none)] rfl ?_
  show DL _ _ _ _ _ _ _ _ _ _ [0] _ _
  refine DL.pu 3 (.int .i64 a0) rfl (p_move rfl rfl) ?_
  refine DL.nil ?_
  refine TT.block (c := sub [1, 0, 1, 0] B26) ?_
  refine TT.seq (x := sub [1, 0, 1, 0, 0] B26) (y := sub [1, 0, 1, 0, 1] B26) ?_
  refine TT.region (id := 2) (n := 2) (ops := (opsOf (sub [1, 0, 1, 0, 0] B26))) [(.pure, none), (.pure, none)] rfl ?_
  show DL _ _ _ _ _ _ _ _ _ _ [0, 1] _ _
  refine DL.pu 5 (.bool (a0 == 1)) rfl (p_eql rfl rfl rfl) ?_
  refine DL.pu 4 (.bool (a0 == 1)) rfl (p_assign rfl rfl) ?_
  refine DL.nil ?_
  by_cases c1 : (a0 == 1) = true
  · have h2 := ite_true c1 h
    refine TT.cond_true (x := sub [1, 0, 1, 0, 1, 0] B26) (y := sub [1, 0, 1, 0, 1, 1] B26) rfl c1 ?_
    refine TT.seq (x := sub [1, 0, 1, 0, 1, 0, 0] B26) (y := sub [1, 0, 1, 0, 1, 0, 1] B26) ?_
    refine TT.region (id := 3) (n := 1) (ops := (opsOf (sub [1, 0, 1, 0, 1, 0, 0] B26))) [(.pure, none)] rfl ?_
    show DL _ _ _ _ _ _ _ _ _ _ [0] _ _
    refine DL.pu 2 (.int .i64 39) rfl (p_assign rfl rfl) ?_
    refine DL.nil ?_
    obtain rfl := Option.some.inj h2
    exact retnE (rs := [.tmp 2]) (vs := [.int .i64 39]) hE.base Try.func26 rfl rfl rfl (res_cons (ResV.tmp rfl) res_nil) rfl
  · replace c1 := Bool.eq_false_iff.mpr c1
    have h3 := ite_false c1 h
    refine TT.cond_false (x := sub [1, 0, 1, 0, 1, 0] B26) (y := sub [1, 0, 1, 0, 1, 1] B26) rfl c1 ?_
    refine TT.seq (x := sub [1, 0, 1, 0, 1, 1, 0] B26) (y := sub [1, 0, 1, 0, 1, 1, 1] B26) ?_
    refine TT.region (id := 4) (n := 2) (ops := (opsOf (sub [1, 0, 1, 0, 1, 1, 0] B26))) [(.pure, none), (.pure, none)] rfl ?_
    show DL _ _ _ _ _ _ _ _ _ _ [0, 1] _ _
    refine DL.pu 7 (.bool (a0 == 2)) rfl (p_eql rfl rfl rfl) ?_
    refine DL.pu 6 (.bool (a0 == 2)) rfl (p_assign rfl rfl) ?_
    refine DL.nil ?_
    by_cases c4 : (a0 == 2) = true
    · have h5 := ite_true c4 h3
      refine TT.cond_true (x := sub [1, 0, 1, 0, 1, 1, 1, 0] B26) (y := sub [1, 0, 1, 0, 1, 1, 1, 1] B26) rfl c4 ?_
      refine TT.seq (x := sub [1, 0, 1, 0, 1, 1, 1, 0, 0] B26) (y := sub [1, 0, 1, 0, 1, 1, 1, 0, 1] B26) ?_
      refine TT.region (id := 5) (n := 1) (ops := (opsOf (sub [1, 0, 1, 0, 1, 1, 1, 0, 0] B26))) [(.pure, none)] rfl ?_
      show DL _ _ _ _ _ _ _ _ _ _ [0] _ _
      refine DL.pu 2 (.int .i64 43) rfl (p_assign rfl rfl) ?_
      refine DL.nil ?_
      obtain rfl := Option.some.inj h5
      exact retnE (rs := [.tmp 2]) (vs := [.int .i64 43]) hE.base Try.func26 rfl rfl rfl (res_cons (ResV.tmp rfl) res_nil) rfl
    · replace c4 := Bool.eq_false_iff.mpr c4
      have h6 := ite_false c4 h3
      refine TT.cond_false (x := sub [1, 0, 1, 0, 1, 1, 1, 0] B26) (y := sub [1, 0, 1, 0, 1, 1, 1, 1] B26) rfl c4 ?_
      refine TT.seq (x := sub [1, 0, 1, 0, 1, 1, 1, 1, 0] B26) (y := sub [1, 0, 1, 0, 1, 1, 1, 1, 1] B26) ?_
      refine TT.region (id := 6) (n := 2) (ops := (opsOf (sub [1, 0, 1, 0, 1, 1, 1, 1, 0] B26))) [(.pure, none), (.pure, none)] rfl ?_
      show DL _ _ _ _ _ _ _ _ _ _ [0, 1] _ _
      refine DL.pu 9 (.bool (a0 == 3)) rfl (p_eql rfl rfl rfl) ?_
      refine DL.pu 8 (.bool (a0 == 3)) rfl (p_assign rfl rfl) ?_
      refine DL.nil ?_
      by_cases c7 : (a0 == 3) = true
      · have h8 := ite_true c7 h6
        refine TT.cond_true (x := sub [1, 0, 1, 0, 1, 1, 1, 1, 1, 0] B26) (y := sub [1, 0, 1, 0, 1, 1, 1, 1, 1, 1] B26) rfl c7 ?_
        refine TT.seq (x := sub [1, 0, 1, 0, 1, 1, 1, 1, 1, 0, 0] B26) (y := sub [1, 0, 1, 0, 1, 1, 1, 1, 1, 0, 1] B26) ?_
        refine TT.region (id := 7) (n := 1) (ops := (opsOf (sub [1, 0, 1, 0, 1, 1, 1, 1, 1, 0, 0] B26))) [(.pure, none)] rfl ?_
        show DL _ _ _ _ _ _ _ _ _ _ [0] _ _
        refine DL.pu 2 (.int .i64 51) rfl (p_assign rfl rfl) ?_
        refine DL.nil ?_
        obtain rfl := Option.some.inj h8
        exact retnE (rs := [.tmp 2]) (vs := [.int .i64 51]) hE.base Try.func26 rfl rfl rfl (res_cons (ResV.tmp rfl) res_nil) rfl
      · replace c7 := Bool.eq_false_iff.mpr c7
        have h9 := ite_false c7 h6
        refine TT.cond_false (x := sub [1, 0, 1, 0, 1, 1, 1, 1, 1, 0] B26) (y := sub [1, 0, 1, 0, 1, 1, 1, 1, 1, 1] B26) rfl c7 ?_
        refine TT.skip ?_
        refine TT.inBlock ?_
        refine TT.seq (x := sub [1, 1, 0] B26) (y := sub [1, 1, 1] B26) ?_
        refine TT.region (id := 8) (n := 1) (ops := (opsOf (sub [1, 1, 0] B26))) [(.pure, none)] rfl ?_
        show DL _ _ _ _ _ _ _ _ _ _ [0] _ _
        refine DL.pu 2 (.int .i64 0) rfl (p_assign rfl rfl) ?_
        refine DL.nil ?_
        obtain rfl := Option.some.inj h9
        exact retnE (rs := [.tmp 2]) (vs := [.int .i64 0]) hE.base Try.func26 rfl rfl rfl (res_cons (ResV.tmp rfl) res_nil) rfl
theorem ref21_OfType.val {a0 : Int} {r : Int} (h : ref21_OfType.f a0 = some r) {M : Mem} (w : World) (hM : Ext M (heapOf w)) : Calls Try.prog 26 #[.int .i64 a0] w fun e w' => e = .returned (.int .i64 r) ∧ Below w.heap.size w w' :=
  calls_value (ref21_OfType.ok h w hM)

/-! ### escutcheon/policy.in: function 31 -/
noncomputable def B31 : Code := bodyOf Try.f31
def policy_in.f (a0 : Int) (a1 : Int) : Option (Bool) := (if (decide (0 ≤ a0)) = true then (some ((iandn .i64 a0 a1) == 0)) else (some false)).bind fun q2 => some q2
set_option maxRecDepth 20000 in
theorem policy_in.ok {a0 : Int} {a1 : Int} {r : Bool} (h : policy_in.f a0 a1 = some r) {M : Mem} (w : World) (hM : Ext M (heapOf w)) : Calls Try.prog 31 #[.int .i64 a0, .int .i64 a1] w (Post (fun u => u = .bool r) w) := by
  unfold policy_in.f at h
  have hE := Env.start hM
  refine calls_of_TT (N := 13) (S := [(0, .int .i64 a0), (1, .int .i64 a1)]) (c := B31) Try.func31 rfl rfl rfl (by simp) ?_
  show TT _ _ _ _ _ _ [.code (sub [] B31)] _ _
  refine TT.seq (x := sub [0] B31) (y := sub [1] B31) ?_
  refine TT.region (id := 0) (n := 1) (ops := (opsOf (sub [0] B31))) [(.pure, none)] rfl ?_
  show DL _ _ _ _ _ _ _ _ _ _ [0] _ _
  refine DL.pu 4 (.bool false) rfl (p_assign rfl rfl) ?_
  refine DL.nil ?_
  refine TT.seq (x := sub [1, 0] B31) (y := sub [1, 1] B31) ?_
  refine TT.region (id := 1) (n := 9) (ops := (opsOf (sub [1, 0] B31))) [(.pure, none), (.pure, none), (.pure, none), (.pure, none), (.pure, none), (.pure, none), (.pure, none), (.pure, none), (.pure, none)] rfl ?_
  show DL _ _ _ _ _ _ _ _ _ _ [0, 1, 2, 3, 4, 5, 6, 7, 8] _ _
  refine DL.pu 5 (.int .i64 a0) rfl (p_move rfl rfl) ?_
  refine DL.pu 6 (.bool (decide (0 ≤ a0))) rfl (p_geq rfl rfl rfl) ?_
  refine DL.pu 7 (.bool (decide (0 ≤ a0))) rfl (p_move rfl rfl) ?_
  obtain ⟨q2, h3, h4⟩ := bind_some h
  refine DL.cut [(12, .bool q2)] [8] ?_ (fun J5 => ?_)
  · refine DL.pu 4 (.bool q2) rfl (p_assign rfl rfl) ?_
    refine DL.nil ?_
    obtain rfl := Option.some.inj h4
    exact retnE (rs := [.tmp 4]) (vs := [.bool q2]) hE.base Try.func31 rfl rfl rfl (res_cons (ResV.tmp rfl) res_nil) rfl
  · by_cases c6 : (decide (0 ≤ a0)) = true
    · have h7 := ite_true c6 h3
      refine DL.pure (v := .int .i64 a0) rfl (Wn.yes c6 rfl rfl rfl rfl) rfl rfl rfl (p_move rfl rfl) ?_
      refine DL.pure (v := .int .i64 a1) rfl (Wn.yes c6 rfl rfl rfl rfl) rfl rfl rfl (p_move rfl rfl) ?_
      refine DL.pure (v := .int .i64 (iandn .i64 a0 a1)) rfl (Wn.yes c6 rfl rfl rfl rfl) rfl rfl rfl (p_andNot rfl rfl rfl) ?_
      refine DL.pure (v := .bool ((iandn .i64 a0 a1) == 0)) rfl (Wn.yes c6 rfl rfl rfl rfl) rfl rfl rfl (p_eql rfl rfl rfl) ?_
      refine DL.pu 12 (.bool ((iandn .i64 a0 a1) == 0)) rfl (p_pick_t c6 rfl rfl rfl) ?_
      obtain rfl := Option.some.inj h7
      exact DL.weak J5 (Sub.cons rfl (Sub.nil _))
    · replace c6 := Bool.eq_false_iff.mpr c6
      have h8 := ite_false c6 h3
      refine DL.not (i := 3) rfl (Wn.no c6 rfl rfl rfl rfl) rfl rfl ?_
      refine DL.not (i := 4) rfl (Wn.no c6 rfl rfl rfl rfl) rfl rfl ?_
      refine DL.not (i := 5) rfl (Wn.no c6 rfl rfl rfl rfl) rfl rfl ?_
      refine DL.not (i := 6) rfl (Wn.no c6 rfl rfl rfl rfl) rfl rfl ?_
      refine DL.pu 12 (.bool false) rfl (p_pick_f c6 rfl rfl rfl) ?_
      obtain rfl := Option.some.inj h8
      exact DL.weak J5 (Sub.cons rfl (Sub.nil _))
theorem policy_in.val {a0 : Int} {a1 : Int} {r : Bool} (h : policy_in.f a0 a1 = some r) {M : Mem} (w : World) (hM : Ext M (heapOf w)) : Calls Try.prog 31 #[.int .i64 a0, .int .i64 a1] w fun e w' => e = .returned (.bool r) ∧ Below w.heap.size w w' :=
  calls_value (policy_in.ok h w hM)

/-! ### escutcheon/escutcheonref21.Has: function 34 -/
noncomputable def B34 : Code := bodyOf Try.f34
def ref21_Has.f (a0 : Int) (a1 : Int) : Option (Bool) := req (a1 ≠ 0) (nm ((Int.tmod (IntKind.i64.wrap (Int.tdiv a0 a1)) 2) == 1) fun t3 => some t3)
set_option maxRecDepth 20000 in
theorem ref21_Has.ok {a0 : Int} {a1 : Int} {r : Bool} (h : ref21_Has.f a0 a1 = some r) {M : Mem} (w : World) (hM : Ext M (heapOf w)) : Calls Try.prog 34 #[.int .i64 a0, .int .i64 a1] w (Post (fun u => u = .bool r) w) := by
  unfold ref21_Has.f at h
  have hE := Env.start hM
  refine calls_of_TT (N := 10) (S := [(0, .int .i64 a0), (1, .int .i64 a1)]) (c := B34) Try.func34 rfl rfl rfl (by simp) ?_
  show TT _ _ _ _ _ _ [.code (sub [] B34)] _ _
  refine TT.seq (x := sub [0] B34) (y := sub [1] B34) ?_
  refine TT.region (id := 0) (n := 1) (ops := (opsOf (sub [0] B34))) [(.pure, none)] rfl ?_
  show DL _ _ _ _ _ _ _ _ _ _ [0] _ _
  refine DL.pu 4 (.bool false) rfl (p_assign rfl rfl) ?_
  refine DL.nil ?_
  refine TT.seq (x := sub [1, 0] B34) (y := sub [1, 1] B34) ?_
  refine TT.region (id := 1) (n := 6) (ops := (opsOf (sub [1, 0] B34))) [(.pure, none), (.pure, none), (.pure, none), (.pure, none), (.pure, none), (.pure, none)] rfl ?_
  show DL _ _ _ _ _ _ _ _ _ _ [0, 1, 2, 3, 4, 5] _ _
  refine DL.pu 5 (.int .i64 a0) rfl (p_move rfl rfl) ?_
  refine DL.pu 6 (.int .i64 a1) rfl (p_move rfl rfl) ?_
  obtain ⟨g1, h2⟩ := req_some h
  refine DL.pu 7 (.int .i64 (IntKind.i64.wrap (Int.tdiv a0 a1))) rfl (p_quo g1 rfl rfl rfl) ?_
  refine DL.pu 8 (.int .i64 (Int.tmod (IntKind.i64.wrap (Int.tdiv a0 a1)) 2)) rfl (p_rem (by decide) rfl rfl rfl) ?_
  obtain ⟨t3, e4, h5⟩ := nm_some h2
  refine DL.pu 9 (.bool t3) rfl (by rw [e4]; exact p_eql rfl rfl rfl) ?_
  refine DL.pu 4 (.bool t3) rfl (p_assign rfl rfl) ?_
  refine DL.nil ?_
  obtain rfl := Option.some.inj h5
  exact retnE (rs := [.tmp 4]) (vs := [.bool t3]) hE.base Try.func34 rfl rfl rfl (res_cons (ResV.tmp rfl) res_nil) rfl
theorem ref21_Has.val {a0 : Int} {a1 : Int} {r : Bool} (h : ref21_Has.f a0 a1 = some r) {M : Mem} (w : World) (hM : Ext M (heapOf w)) : Calls Try.prog 34 #[.int .i64 a0, .int .i64 a1] w fun e w' => e = .returned (.bool r) ∧ Below w.heap.size w w' :=
  calls_value (ref21_Has.ok h w hM)

/-! ### escutcheon/escutcheonref21.In: function 32 -/
noncomputable def B32 : Code := bodyOf Try.f32
def ref21_In.L0 (a0 : Int) (a1 : Int) : Nat → Int → Option ((Unit) ⊕ (Bool))
  | 0, _ => none
  | k + 1, x5_20 => if (decide (x5_20 < 64)) = true then ((ref21_Has.f a0 x5_20).bind fun t93 => (if t93 = true then ((ref21_Has.f a1 x5_20).bind fun t103 => some (!t103)) else (some false)).bind fun q97 => if q97 = true then (some (.inr false)) else (ref21_In.L0 a0 a1 k (IntKind.i64.wrap (2 * x5_20)))) else (some (.inl ()))
set_option maxRecDepth 20000 in
theorem ref21_In.L0_ok (a0 : Int) (a1 : Int) {r : Bool}  {w0 : World} {M0 M I : Mem} {K : List Item} (hE : Env w0 M0 M I) :
    ∀ (k : Nat) (x5_20 : Int) (q : (Unit) ⊕ (Bool)) (h : ref21_In.L0 a0 a1 k x5_20 = some q) (hk : match (generalizing := false) q with | .inl () => (TT Try.prog 32 (Post (fun u => u = .bool r) w0) 29 w0 I K [] []) | .inr rq => rq = r),
      TT Try.prog 32 (Post (fun u => u = .bool r) w0) 29 w0 I (.code (sub [1, 1, 0, 1, 0, 0] B32) :: .inLoop (sub [1, 1, 0, 1, 0, 0] B32) :: .inBlock 0 :: K) [(0, .int .i64 a0), (1, .int .i64 a1), (5, .int .i64 x5_20)] [] := by
  intro k
  induction k with
  | zero => intro x5_20 q h; simp [ref21_In.L0] at h
  | succ k ih =>
    intro x5_20 q h hk
    unfold ref21_In.L0 at h
    refine TT.seq (x := sub [1, 1, 0, 1, 0, 0, 0] B32) (y := sub [1, 1, 0, 1, 0, 0, 1] B32) ?_
    refine TT.seq (x := sub [1, 1, 0, 1, 0, 0, 0, 0] B32) (y := sub [1, 1, 0, 1, 0, 0, 0, 1] B32) ?_
    refine TT.region (id := 4) (n := 2) (ops := (opsOf (sub [1, 1, 0, 1, 0, 0, 0, 0] B32))) [(.pure, none), (.pure, none)] rfl ?_
    show DL _ _ _ _ _ _ _ _ _ _ [0, 1] _ _
    refine DL.pu 16 (.int .i64 x5_20) rfl (p_move rfl rfl) ?_
    refine DL.pu 17 (.bool (decide (x5_20 < 64))) rfl (p_lss rfl rfl rfl) ?_
    refine DL.nil ?_
    by_cases c91 : (decide (x5_20 < 64)) = true
    · have h92 := ite_true c91 h
      refine TT.cond_true (x := sub [1, 1, 0, 1, 0, 0, 0, 1, 0] B32) (y := sub [1, 1, 0, 1, 0, 0, 0, 1, 1] B32) rfl c91 ?_
      refine TT.skip ?_
      refine TT.seq (x := sub [1, 1, 0, 1, 0, 0, 1, 0] B32) (y := sub [1, 1, 0, 1, 0, 0, 1, 1] B32) ?_
      refine TT.block (c := sub [1, 1, 0, 1, 0, 0, 1, 0, 0] B32) ?_
      refine TT.seq (x := sub [1, 1, 0, 1, 0, 0, 1, 0, 0, 0] B32) (y := sub [1, 1, 0, 1, 0, 0, 1, 0, 0, 1] B32) ?_
      refine TT.region (id := 6) (n := 9) (ops := (opsOf (sub [1, 1, 0, 1, 0, 0, 1, 0, 0, 0] B32))) [(.pure, none), (.pure, none), (.quiet, none), (.pure, none), (.pure, none), (.pure, none), (.quiet, none), (.pure, none), (.pure, none)] rfl ?_
      show DL _ _ _ _ _ _ _ _ _ _ [0, 1, 2, 3, 4, 5, 6, 7, 8] _ _
      refine DL.pu 20 (.int .i64 a0) rfl (p_move rfl rfl) ?_
      refine DL.pu 21 (.int .i64 x5_20) rfl (p_move rfl rfl) ?_
      obtain ⟨t93, h94, h95⟩ := bind_some h92
      refine DL.qu 22 (.bool t93) rfl (f_callR rfl rfl (args_val (vs := [.int .i64 a0, .int .i64 x5_20]) rfl) (fun w => enter34 _ w) (fun w hc => ref21_Has.val h94 (M := M) w (hE.ext hc) )) ?_
      refine DL.pu 23 (.bool t93) rfl (p_move rfl rfl) ?_
      obtain ⟨q97, h98, h99⟩ := bind_some h95
      refine DL.cut [(0, .int .i64 a0), (1, .int .i64 a1), (5, .int .i64 x5_20), (28, .bool q97)] [] ?_ (fun J100 => ?_)
      · refine DL.nil ?_
        by_cases c107 : q97 = true
        · have h108 := ite_true c107 h99
          refine TT.cond_true (x := sub [1, 1, 0, 1, 0, 0, 1, 0, 0, 1, 0] B32) (y := sub [1, 1, 0, 1, 0, 0, 1, 0, 0, 1, 1] B32) rfl c107 ?_
          refine TT.seq (x := sub [1, 1, 0, 1, 0, 0, 1, 0, 0, 1, 0, 0] B32) (y := sub [1, 1, 0, 1, 0, 0, 1, 0, 0, 1, 0, 1] B32) ?_
          refine TT.region (id := 7) (n := 1) (ops := (opsOf (sub [1, 1, 0, 1, 0, 0, 1, 0, 0, 1, 0, 0] B32))) [(.pure, none)] rfl ?_
          show DL _ _ _ _ _ _ _ _ _ _ [0] _ _
          refine DL.pu 4 (.bool false) rfl (p_assign rfl rfl) ?_
          refine DL.nil ?_
          obtain rfl := Option.some.inj h108
          have k109 : false = r := hk
          subst k109
          exact retnE (rs := [.tmp 4]) (vs := [.bool false]) hE.base Try.func32 rfl rfl rfl (res_cons (ResV.tmp rfl) res_nil) rfl
        · replace c107 := Bool.eq_false_iff.mpr c107
          have h110 := ite_false c107 h99
          refine TT.cond_false (x := sub [1, 1, 0, 1, 0, 0, 1, 0, 0, 1, 0] B32) (y := sub [1, 1, 0, 1, 0, 0, 1, 0, 0, 1, 1] B32) rfl c107 ?_
          refine TT.skip ?_
          refine TT.inBlock ?_
          refine TT.region (id := 5) (n := 3) (ops := (opsOf (sub [1, 1, 0, 1, 0, 0, 1, 1] B32))) [(.pure, none), (.pure, none), (.pure, none)] rfl ?_
          show DL _ _ _ _ _ _ _ _ _ _ [0, 1, 2] _ _
          refine DL.pu 18 (.int .i64 x5_20) rfl (p_move rfl rfl) ?_
          refine DL.pu 19 (.int .i64 (IntKind.i64.wrap (2 * x5_20))) rfl (p_mul rfl rfl rfl) ?_
          refine DL.pu 5 (.int .i64 (IntKind.i64.wrap (2 * x5_20))) rfl (p_assign rfl rfl) ?_
          refine DL.nil ?_
          refine TT.inLoop ?_
          exact TT.weak (ih (IntKind.i64.wrap (2 * x5_20)) _ h110 hk) (Sub.cons rfl (Sub.cons rfl (Sub.cons rfl (Sub.nil _))))
      · by_cases c101 : t93 = true
        · have h102 := ite_true c101 h98
          refine DL.pure (v := .int .i64 a1) rfl (Wn.yes c101 rfl rfl rfl rfl) rfl rfl rfl (p_move rfl rfl) ?_
          refine DL.pure (v := .int .i64 x5_20) rfl (Wn.yes c101 rfl rfl rfl rfl) rfl rfl rfl (p_move rfl rfl) ?_
          obtain ⟨t103, h104, h105⟩ := bind_some h102
          refine DL.quiet (v := .bool t103) rfl (Wn.yes c101 rfl rfl rfl rfl) rfl rfl rfl (f_callR rfl rfl (args_val (vs := [.int .i64 a1, .int .i64 x5_20]) rfl) (fun w => enter34 _ w) (fun w hc => ref21_Has.val h104 (M := M) w (hE.ext hc) )) ?_
          refine DL.pure (v := .bool (!t103)) rfl (Wn.yes c101 rfl rfl rfl rfl) rfl rfl rfl (p_not rfl rfl) ?_
          refine DL.pu 28 (.bool (!t103)) rfl (p_pick_t c101 rfl rfl rfl) ?_
          obtain rfl := Option.some.inj h105
          exact DL.weak J100 (Sub.cons rfl (Sub.cons rfl (Sub.cons rfl (Sub.cons rfl (Sub.nil _)))))
        · replace c101 := Bool.eq_false_iff.mpr c101
          have h106 := ite_false c101 h98
          refine DL.not (i := 4) rfl (Wn.no c101 rfl rfl rfl rfl) rfl rfl ?_
          refine DL.not (i := 5) rfl (Wn.no c101 rfl rfl rfl rfl) rfl rfl ?_
          refine DL.not (i := 6) rfl (Wn.no c101 rfl rfl rfl rfl) rfl rfl ?_
          refine DL.not (i := 7) rfl (Wn.no c101 rfl rfl rfl rfl) rfl rfl ?_
          refine DL.pu 28 (.bool false) rfl (p_pick_f c101 rfl rfl rfl) ?_
          obtain rfl := Option.some.inj h106
          exact DL.weak J100 (Sub.cons rfl (Sub.cons rfl (Sub.cons rfl (Sub.cons rfl (Sub.nil _)))))
    · replace c91 := Bool.eq_false_iff.mpr c91
      have h111 := ite_false c91 h
      refine TT.cond_false (x := sub [1, 1, 0, 1, 0, 0, 0, 1, 0] B32) (y := sub [1, 1, 0, 1, 0, 0, 0, 1, 1] B32) rfl c91 ?_
      refine TT.exit rfl ?_
      obtain rfl := Option.some.inj h111
      exact TT.weak (hk) (Sub.nil _)

def ref21_In.f (a0 : Int) (a1 : Int) : Option (Bool) := (if (decide (a0 < 0)) = true then (some true) else (some (decide (63 < a0)))).bind fun q2 => (if q2 = true then (some true) else (some (decide (a1 < 0)))).bind fun q10 => if q10 = true then (some false) else (onw (ref21_In.L0 a0 a1 8 1) (fun _ => some true) (fun r => some r))
set_option maxRecDepth 20000 in
theorem ref21_In.ok {a0 : Int} {a1 : Int} {r : Bool} (h : ref21_In.f a0 a1 = some r) {M : Mem} (w : World) (hM : Ext M (heapOf w)) : Calls Try.prog 32 #[.int .i64 a0, .int .i64 a1] w (Post (fun u => u = .bool r) w) := by
  unfold ref21_In.f at h
  have hE := Env.start hM
  refine calls_of_TT (N := 29) (S := [(0, .int .i64 a0), (1, .int .i64 a1)]) (c := B32) Try.func32 rfl rfl rfl (by simp) ?_
  show TT _ _ _ _ _ _ [.code (sub [] B32)] _ _
  refine TT.seq (x := sub [0] B32) (y := sub [1] B32) ?_
  refine TT.region (id := 0) (n := 1) (ops := (opsOf (sub [0] B32))) [(.pure, none)] rfl ?_
  show DL _ _ _ _ _ _ _ _ _ _ [0] _ _
  refine DL.pu 4 (.bool false) rfl (p_assign rfl rfl) ?_
  refine DL.nil ?_
  refine TT.seq (x := sub [1, 0] B32) (y := sub [1, 1] B32) ?_
  refine TT.seq (x := sub [1, 0, 0] B32) (y := sub [1, 0, 1] B32) ?_
  refine TT.region (id := 1) (n := 10) (ops := (opsOf (sub [1, 0, 0] B32))) [(.pure, none), (.pure, none), (.pure, none), (.pure, none), (.pure, none), (.pure, none), (.pure, none), (.pure, none), (.pure, none), (.pure, none)] rfl ?_
  show DL _ _ _ _ _ _ _ _ _ _ [0, 1, 2, 3, 4, 5, 6, 7, 8, 9] _ _
  refine DL.pu 6 (.int .i64 a0) rfl (p_move rfl rfl) ?_
  refine DL.pu 7 (.bool (decide (a0 < 0))) rfl (p_lss rfl rfl rfl) ?_
  refine DL.pu 8 (.bool (decide (a0 < 0))) rfl (p_move rfl rfl) ?_
  obtain ⟨q2, h3, h4⟩ := bind_some h
  refine DL.cut [(0, .int .i64 a0), (1, .int .i64 a1), (11, .bool q2)] [6, 7, 8, 9] ?_ (fun J5 => ?_)
  · refine DL.pu 12 (.bool q2) rfl (p_move rfl rfl) ?_
    obtain ⟨q10, h11, h12⟩ := bind_some h4
    refine DL.cut [(0, .int .i64 a0), (1, .int .i64 a1), (15, .bool q10)] [] ?_ (fun J13 => ?_)
    · refine DL.nil ?_
      by_cases c17 : q10 = true
      · have h18 := ite_true c17 h12
        refine TT.cond_true (x := sub [1, 0, 1, 0] B32) (y := sub [1, 0, 1, 1] B32) rfl c17 ?_
        refine TT.seq (x := sub [1, 0, 1, 0, 0] B32) (y := sub [1, 0, 1, 0, 1] B32) ?_
        refine TT.region (id := 2) (n := 1) (ops := (opsOf (sub [1, 0, 1, 0, 0] B32))) [(.pure, none)] rfl ?_
        show DL _ _ _ _ _ _ _ _ _ _ [0] _ _
        refine DL.pu 4 (.bool false) rfl (p_assign rfl rfl) ?_
        refine DL.nil ?_
        obtain rfl := Option.some.inj h18
        exact retnE (rs := [.tmp 4]) (vs := [.bool false]) hE.base Try.func32 rfl rfl rfl (res_cons (ResV.tmp rfl) res_nil) rfl
      · replace c17 := Bool.eq_false_iff.mpr c17
        have h19 := ite_false c17 h12
        refine TT.cond_false (x := sub [1, 0, 1, 0] B32) (y := sub [1, 0, 1, 1] B32) rfl c17 ?_
        refine TT.skip ?_
        refine TT.seq (x := sub [1, 1, 0] B32) (y := sub [1, 1, 1] B32) ?_
        refine TT.seq (x := sub [1, 1, 0, 0] B32) (y := sub [1, 1, 0, 1] B32) ?_
        refine TT.region (id := 3) (n := 1) (ops := (opsOf (sub [1, 1, 0, 0] B32))) [(.pure, none)] rfl ?_
        show DL _ _ _ _ _ _ _ _ _ _ [0] _ _
        refine DL.pu 5 (.int .i64 1) rfl (p_assign rfl rfl) ?_
        refine DL.nil ?_
        refine TT.block (c := sub [1, 1, 0, 1, 0] B32) ?_
        refine TT.loop (c := sub [1, 1, 0, 1, 0, 0] B32) ?_
        rcases onw_some h19 with ⟨_, h112, h113⟩ | ⟨r115, h112, h113⟩
        · refine TT.weak (ref21_In.L0_ok a0 a1 hE 8 1 (.inl ()) h112 (?_)) (Sub.cons rfl (Sub.cons rfl (Sub.cons rfl (Sub.nil _))))
          show TT _ _ _ _ _ _ _ _ _
          refine TT.seq (x := sub [1, 1, 1, 0] B32) (y := sub [1, 1, 1, 1] B32) ?_
          refine TT.region (id := 8) (n := 1) (ops := (opsOf (sub [1, 1, 1, 0] B32))) [(.pure, none)] rfl ?_
          show DL _ _ _ _ _ _ _ _ _ _ [0] _ _
          refine DL.pu 4 (.bool true) rfl (p_assign rfl rfl) ?_
          refine DL.nil ?_
          obtain rfl := Option.some.inj h113
          exact retnE (rs := [.tmp 4]) (vs := [.bool true]) hE.base Try.func32 rfl rfl rfl (res_cons (ResV.tmp rfl) res_nil) rfl
        · obtain rfl := Option.some.inj h113
          exact TT.weak (ref21_In.L0_ok a0 a1 hE 8 1 (.inr r115) h112 rfl) (Sub.cons rfl (Sub.cons rfl (Sub.cons rfl (Sub.nil _))))
    · by_cases c14 : q2 = true
      · have h15 := ite_true c14 h11
        refine DL.not (i := 7) rfl (Wn.yes c14 rfl rfl rfl rfl) rfl rfl ?_
        refine DL.not (i := 8) rfl (Wn.yes c14 rfl rfl rfl rfl) rfl rfl ?_
        refine DL.pu 15 (.bool true) rfl (p_pick_t c14 rfl rfl rfl) ?_
        obtain rfl := Option.some.inj h15
        exact DL.weak J13 (Sub.cons rfl (Sub.cons rfl (Sub.cons rfl (Sub.nil _))))
      · replace c14 := Bool.eq_false_iff.mpr c14
        have h16 := ite_false c14 h11
        refine DL.pure (v := .int .i64 a1) rfl (Wn.no c14 rfl rfl rfl rfl) rfl rfl rfl (p_move rfl rfl) ?_
        refine DL.pure (v := .bool (decide (a1 < 0))) rfl (Wn.no c14 rfl rfl rfl rfl) rfl rfl rfl (p_lss rfl rfl rfl) ?_
        refine DL.pu 15 (.bool (decide (a1 < 0))) rfl (p_pick_f c14 rfl rfl rfl) ?_
        obtain rfl := Option.some.inj h16
        exact DL.weak J13 (Sub.cons rfl (Sub.cons rfl (Sub.cons rfl (Sub.nil _))))
  · by_cases c6 : (decide (a0 < 0)) = true
    · have h7 := ite_true c6 h3
      refine DL.not (i := 3) rfl (Wn.yes c6 rfl rfl rfl rfl) rfl rfl ?_
      refine DL.not (i := 4) rfl (Wn.yes c6 rfl rfl rfl rfl) rfl rfl ?_
      refine DL.pu 11 (.bool true) rfl (p_pick_t c6 rfl rfl rfl) ?_
      obtain rfl := Option.some.inj h7
      exact DL.weak J5 (Sub.cons rfl (Sub.cons rfl (Sub.cons rfl (Sub.nil _))))
    · replace c6 := Bool.eq_false_iff.mpr c6
      have h8 := ite_false c6 h3
      refine DL.pure (v := .int .i64 a0) rfl (Wn.no c6 rfl rfl rfl rfl) rfl rfl rfl (p_move rfl rfl) ?_
      refine DL.pure (v := .bool (decide (63 < a0))) rfl (Wn.no c6 rfl rfl rfl rfl) rfl rfl rfl (p_gtr rfl rfl rfl) ?_
      refine DL.pu 11 (.bool (decide (63 < a0))) rfl (p_pick_f c6 rfl rfl rfl) ?_
      obtain rfl := Option.some.inj h8
      exact DL.weak J5 (Sub.cons rfl (Sub.cons rfl (Sub.cons rfl (Sub.nil _))))
theorem ref21_In.val {a0 : Int} {a1 : Int} {r : Bool} (h : ref21_In.f a0 a1 = some r) {M : Mem} (w : World) (hM : Ext M (heapOf w)) : Calls Try.prog 32 #[.int .i64 a0, .int .i64 a1] w fun e w' => e = .returned (.bool r) ∧ Below w.heap.size w w' :=
  calls_value (ref21_In.ok h w hM)

/-! ### escutcheon/policy.MayCard: function 22 -/
noncomputable def B22 : Code := bodyOf Try.f22
def policy_MayCard.f (a0_0 : Int) (a0_1 : Int) (a0_2 : Int) (a0_3 : Int) : Option (Bool) := (policy_OfType.f a0_0).bind fun t3 => (if (t3 != 0) = true then (some (decide (1 ≤ a0_1))) else (some false)).bind fun q7 => (if q7 = true then (some (decide (a0_1 ≤ 4))) else (some false)).bind fun q15 => (if q15 = true then ((policy_OfType.f a0_0).bind fun t29 => (policy_in.f a0_3 t29).bind fun t32 => some t32) else (some false)).bind fun q23 => (if q23 = true then ((policy_in.f a0_2 a0_3).bind fun t43 => some t43) else (some false)).bind fun q37 => (if q37 = true then ((if (a0_1 != 2) = true then (some true) else (some ((iand .i64 a0_3 1) != 0))).bind fun q55 => some q55) else (some false)).bind fun q48 => some q48
set_option maxRecDepth 20000 in
theorem policy_MayCard.ok {a0_0 : Int} {a0_1 : Int} {a0_2 : Int} {a0_3 : Int} {r : Bool} (h : policy_MayCard.f a0_0 a0_1 a0_2 a0_3 = some r) {M : Mem} (w : World) (hM : Ext M (heapOf w)) : Calls Try.prog 22 #[.agg #[.int .i64 a0_0, .int .i64 a0_1, .int .i64 a0_2, .int .i64 a0_3]] w (Post (fun u => u = .bool r) w) := by
  unfold policy_MayCard.f at h
  have hE := Env.start hM
  refine calls_of_TT (N := 43) (S := [(0, .agg #[.int .i64 a0_0, .int .i64 a0_1, .int .i64 a0_2, .int .i64 a0_3])]) (c := B22) Try.func22 rfl rfl rfl (by simp) ?_
  show TT _ _ _ _ _ _ [.code (sub [] B22)] _ _
  refine TT.seq (x := sub [0] B22) (y := sub [1] B22) ?_
  refine TT.region (id := 0) (n := 2) (ops := (opsOf (sub [0] B22))) [(.alloc, none), (.pure, none)] rfl ?_
  show DL _ _ _ _ _ _ _ _ _ _ [0, 1] _ _
  refine DL.new (ob := .cells (#[.int .i64 a0_0, .int .i64 a0_1, .int .i64 a0_2, .int .i64 a0_3]) 26) (mk := fun b => ptr b 0) (i := 0) rfl (Wn.none rfl) rfl rfl rfl (f_box (v := .agg #[.int .i64 a0_0, .int .i64 a0_1, .int .i64 a0_2, .int .i64 a0_3]) rfl rfl) ?_
  intro b1 hb1
  refine DL.pu 2 (.bool false) rfl (p_assign rfl rfl) ?_
  refine DL.nil ?_
  refine TT.seq (x := sub [1, 0] B22) (y := sub [1, 1] B22) ?_
  refine TT.regionD (id := 1) (ops := (opsOf (sub [1, 0] B22))) [0, 1, 2, 3, 4, 5, 6, 7, 8, 9, 10, 11, 12, 13, 14, 15, 16, 17, 18, 19, 20, 21, 22, 23, 24, 25, 26, 27, 28, 29, 30, 31, 32, 33, 34, 35, 36, 37, 38, 39, 40] [0, 1, 3, 7, 15, 31, 63, 127, 255, 511, 1023, 2047, 4095, 8191, 16383, 32767, 65535, 32767, 163839, 425983, 1048575, 2097151, 4194303, 8388607, 16777215, 8388607, 41943039, 134217727, 268435455, 536870911, 1073741823, 2147483647, 4294967295, 8589934591, 17179869183, 34359738367, 68719476735, 137438953471, 274877906943, 549755813887, 1099511627775] [(.pure, none), (.look, some 0), (.quiet, none), (.pure, none), (.pure, none), (.pure, none), (.look, some 0), (.pure, none), (.pure, none), (.pure, none), (.pure, none), (.look, some 0), (.pure, none), (.pure, none), (.pure, none), (.pure, none), (.look, some 0), (.pure, none), (.look, some 0), (.quiet, none), (.quiet, none), (.pure, none), (.pure, none), (.pure, none), (.look, some 0), (.pure, none), (.look, some 0), (.quiet, none), (.pure, none), (.pure, none), (.pure, none), (.look, some 0), (.pure, none), (.pure, none), (.pure, none), (.look, some 0), (.pure, none), (.pure, none), (.pure, none), (.pure, none), (.pure, none)] mixed (by kernel_rfl) ?_
  intro w2 hl2 hj2 hz2
  refine DL.pu 3 (ptr b1 0) rfl (p_fieldAddr ty_f26_0 rfl rfl) ?_
  refine DL.look (v := .int .i64 a0_0) (x := 0) (b := b1) (i := 1) rfl (Wn.none rfl) rfl rfl rfl rfl rfl (List.mem_of_getElem? (i := 0) rfl) (b_load ty_a22 rfl rfl rfl) ?_
  obtain ⟨t3, h4, h5⟩ := bind_some h
  refine DL.qu 5 (.int .i64 t3) rfl (f_callR rfl rfl (args_val (vs := [.int .i64 a0_0]) rfl) (fun w => enter25 _ w) (fun w hc => policy_OfType.val h4 (M := M) w (hE.ext hc) )) ?_
  refine DL.pu 6 (.bool (t3 != 0)) rfl (p_neq rfl rfl rfl) ?_
  refine DL.pu 7 (.bool (t3 != 0)) rfl (p_move rfl rfl) ?_
  obtain ⟨q7, h8, h9⟩ := bind_some h5
  refine DL.cut [(1, ptr b1 0), (11, .bool q7)] [9, 10, 11, 12, 13, 14, 15, 16, 17, 18, 19, 20, 21, 22, 23, 24, 25, 26, 27, 28, 29, 30, 31, 32, 33, 34, 35, 36, 37, 38, 39, 40] ?_ (fun J10 => ?_)
  · refine DL.pu 12 (.bool q7) rfl (p_move rfl rfl) ?_
    obtain ⟨q15, h16, h17⟩ := bind_some h9
    refine DL.cut [(1, ptr b1 0), (16, .bool q15)] [14, 15, 16, 17, 18, 19, 20, 21, 22, 23, 24, 25, 26, 27, 28, 29, 30, 31, 32, 33, 34, 35, 36, 37, 38, 39, 40] ?_ (fun J18 => ?_)
    · refine DL.pu 17 (.bool q15) rfl (p_move rfl rfl) ?_
      obtain ⟨q23, h24, h25⟩ := bind_some h17
      refine DL.cut [(1, ptr b1 0), (24, .bool q23)] [22, 23, 24, 25, 26, 27, 28, 29, 30, 31, 32, 33, 34, 35, 36, 37, 38, 39, 40] ?_ (fun J26 => ?_)
      · refine DL.pu 25 (.bool q23) rfl (p_move rfl rfl) ?_
        obtain ⟨q37, h38, h39⟩ := bind_some h25
        refine DL.cut [(1, ptr b1 0), (31, .bool q37)] [29, 30, 31, 32, 33, 34, 35, 36, 37, 38, 39, 40] ?_ (fun J40 => ?_)
        · refine DL.pu 32 (.bool q37) rfl (p_move rfl rfl) ?_
          obtain ⟨q48, h49, h50⟩ := bind_some h39
          refine DL.cut [(42, .bool q48)] [40] ?_ (fun J51 => ?_)
          · refine DL.pu 2 (.bool q48) rfl (p_assign rfl rfl) ?_
            refine DL.nil' hl2 ?_
            obtain rfl := Option.some.inj h50
            exact retnE (rs := [.tmp 2]) (vs := [.bool q48]) hE.base Try.func22 rfl rfl rfl (res_cons (ResV.tmp rfl) res_nil) rfl
          · by_cases c52 : q37 = true
            · have h53 := ite_true c52 h49
              refine DL.pure (v := ptr b1 1) rfl (Wn.yes c52 rfl rfl rfl rfl) rfl rfl rfl (p_fieldAddr ty_f26_1 rfl rfl) ?_
              refine DL.look (v := .int .i64 a0_1) (x := 0) (b := b1) (i := 31) rfl (Wn.yes c52 rfl rfl rfl rfl) rfl rfl rfl rfl rfl (List.mem_of_getElem? (i := 0) rfl) (b_load ty_a23 rfl rfl rfl) ?_
              refine DL.pure (v := .bool (a0_1 != 2)) rfl (Wn.yes c52 rfl rfl rfl rfl) rfl rfl rfl (p_neq rfl rfl rfl) ?_
              refine DL.pure (v := .bool (a0_1 != 2)) rfl (Wn.yes c52 rfl rfl rfl rfl) rfl rfl rfl (p_move rfl rfl) ?_
              obtain ⟨q55, h56, h57⟩ := bind_some h53
              refine DL.cut [(32, .bool q37), (41, .bool q55)] [39, 40] ?_ (fun J58 => ?_)
              · refine DL.pu 42 (.bool q55) rfl (p_pick_t c52 rfl rfl rfl) ?_
                obtain rfl := Option.some.inj h57
                exact DL.weak J51 (Sub.cons rfl (Sub.nil _))
              · by_cases c59 : (a0_1 != 2) = true
                · have h60 := ite_true c59 h56
                  refine DL.not (i := 34) rfl (Wn.yes c59 rfl rfl rfl rfl) rfl rfl ?_
                  refine DL.not (i := 35) rfl (Wn.yes c59 rfl rfl rfl rfl) rfl rfl ?_
                  refine DL.not (i := 36) rfl (Wn.yes c59 rfl rfl rfl rfl) rfl rfl ?_
                  refine DL.not (i := 37) rfl (Wn.yes c59 rfl rfl rfl rfl) rfl rfl ?_
                  refine DL.pure (v := .bool true) rfl (Wn.yes c52 rfl rfl rfl rfl) rfl rfl rfl (p_pick_t c59 rfl rfl rfl) ?_
                  obtain rfl := Option.some.inj h60
                  exact DL.weak J58 (Sub.cons rfl (Sub.cons rfl (Sub.nil _)))
                · replace c59 := Bool.eq_false_iff.mpr c59
                  have h61 := ite_false c59 h56
                  refine DL.pure (v := ptr b1 3) rfl (Wn.no c59 rfl rfl rfl rfl) rfl rfl rfl (p_fieldAddr ty_f26_3 rfl rfl) ?_
                  refine DL.look (v := .int .i64 a0_3) (x := 0) (b := b1) (i := 35) rfl (Wn.no c59 rfl rfl rfl rfl) rfl rfl rfl rfl rfl (List.mem_of_getElem? (i := 0) rfl) (b_load ty_a24 rfl rfl rfl) ?_
                  refine DL.pure (v := .int .i64 (iand .i64 a0_3 1)) rfl (Wn.no c59 rfl rfl rfl rfl) rfl rfl rfl (p_and rfl rfl rfl) ?_
                  refine DL.pure (v := .bool ((iand .i64 a0_3 1) != 0)) rfl (Wn.no c59 rfl rfl rfl rfl) rfl rfl rfl (p_neq rfl rfl rfl) ?_
                  refine DL.pure (v := .bool ((iand .i64 a0_3 1) != 0)) rfl (Wn.yes c52 rfl rfl rfl rfl) rfl rfl rfl (p_pick_f c59 rfl rfl rfl) ?_
                  obtain rfl := Option.some.inj h61
                  exact DL.weak J58 (Sub.cons rfl (Sub.cons rfl (Sub.nil _)))
            · replace c52 := Bool.eq_false_iff.mpr c52
              have h62 := ite_false c52 h49
              refine DL.not (i := 30) rfl (Wn.no c52 rfl rfl rfl rfl) rfl rfl ?_
              refine DL.not (i := 31) rfl (Wn.no c52 rfl rfl rfl rfl) rfl rfl ?_
              refine DL.not (i := 32) rfl (Wn.no c52 rfl rfl rfl rfl) rfl rfl ?_
              refine DL.not (i := 33) rfl (Wn.no c52 rfl rfl rfl rfl) rfl rfl ?_
              refine DL.not (i := 34) rfl (Wn.undef rfl rfl rfl) rfl rfl ?_
              refine DL.not (i := 35) rfl (Wn.undef rfl rfl rfl) rfl rfl ?_
              refine DL.not (i := 36) rfl (Wn.undef rfl rfl rfl) rfl rfl ?_
              refine DL.not (i := 37) rfl (Wn.undef rfl rfl rfl) rfl rfl ?_
              refine DL.not (i := 38) rfl (Wn.no c52 rfl rfl rfl rfl) rfl rfl ?_
              refine DL.pu 42 (.bool false) rfl (p_pick_f c52 rfl rfl rfl) ?_
              obtain rfl := Option.some.inj h62
              exact DL.weak J51 (Sub.cons rfl (Sub.nil _))
        · by_cases c41 : q23 = true
          · have h42 := ite_true c41 h38
            refine DL.pure (v := ptr b1 2) rfl (Wn.yes c41 rfl rfl rfl rfl) rfl rfl rfl (p_fieldAddr ty_f26_2 rfl rfl) ?_
            refine DL.look (v := .int .i64 a0_2) (x := 0) (b := b1) (i := 24) rfl (Wn.yes c41 rfl rfl rfl rfl) rfl rfl rfl rfl rfl (List.mem_of_getElem? (i := 0) rfl) (b_load ty_a24 rfl rfl rfl) ?_
            refine DL.pure (v := ptr b1 3) rfl (Wn.yes c41 rfl rfl rfl rfl) rfl rfl rfl (p_fieldAddr ty_f26_3 rfl rfl) ?_
            refine DL.look (v := .int .i64 a0_3) (x := 0) (b := b1) (i := 26) rfl (Wn.yes c41 rfl rfl rfl rfl) rfl rfl rfl rfl rfl (List.mem_of_getElem? (i := 0) rfl) (b_load ty_a24 rfl rfl rfl) ?_
            obtain ⟨t43, h44, h45⟩ := bind_some h42
            refine DL.quiet (v := .bool t43) rfl (Wn.yes c41 rfl rfl rfl rfl) rfl rfl rfl (f_callR rfl rfl (args_val (vs := [.int .i64 a0_2, .int .i64 a0_3]) rfl) (fun w => enter31 _ w) (fun w hc => policy_in.val h44 (M := M) w (hE.ext hc) )) ?_
            refine DL.pu 31 (.bool t43) rfl (p_pick_t c41 rfl rfl rfl) ?_
            obtain rfl := Option.some.inj h45
            exact DL.weak J40 (Sub.cons rfl (Sub.cons rfl (Sub.nil _)))
          · replace c41 := Bool.eq_false_iff.mpr c41
            have h46 := ite_false c41 h38
            refine DL.not (i := 23) rfl (Wn.no c41 rfl rfl rfl rfl) rfl rfl ?_
            refine DL.not (i := 24) rfl (Wn.no c41 rfl rfl rfl rfl) rfl rfl ?_
            refine DL.not (i := 25) rfl (Wn.no c41 rfl rfl rfl rfl) rfl rfl ?_
            refine DL.not (i := 26) rfl (Wn.no c41 rfl rfl rfl rfl) rfl rfl ?_
            refine DL.not (i := 27) rfl (Wn.no c41 rfl rfl rfl rfl) rfl rfl ?_
            refine DL.pu 31 (.bool false) rfl (p_pick_f c41 rfl rfl rfl) ?_
            obtain rfl := Option.some.inj h46
            exact DL.weak J40 (Sub.cons rfl (Sub.cons rfl (Sub.nil _)))
      · by_cases c27 : q15 = true
        · have h28 := ite_true c27 h24
          refine DL.pure (v := ptr b1 3) rfl (Wn.yes c27 rfl rfl rfl rfl) rfl rfl rfl (p_fieldAddr ty_f26_3 rfl rfl) ?_
          refine DL.look (v := .int .i64 a0_3) (x := 0) (b := b1) (i := 16) rfl (Wn.yes c27 rfl rfl rfl rfl) rfl rfl rfl rfl rfl (List.mem_of_getElem? (i := 0) rfl) (b_load ty_a24 rfl rfl rfl) ?_
          refine DL.pure (v := ptr b1 0) rfl (Wn.yes c27 rfl rfl rfl rfl) rfl rfl rfl (p_fieldAddr ty_f26_0 rfl rfl) ?_
          refine DL.look (v := .int .i64 a0_0) (x := 0) (b := b1) (i := 18) rfl (Wn.yes c27 rfl rfl rfl rfl) rfl rfl rfl rfl rfl (List.mem_of_getElem? (i := 0) rfl) (b_load ty_a22 rfl rfl rfl) ?_
          obtain ⟨t29, h30, h31⟩ := bind_some h28
          refine DL.quiet (v := .int .i64 t29) rfl (Wn.yes c27 rfl rfl rfl rfl) rfl rfl rfl (f_callR rfl rfl (args_val (vs := [.int .i64 a0_0]) rfl) (fun w => enter25 _ w) (fun w hc => policy_OfType.val h30 (M := M) w (hE.ext hc) )) ?_
          obtain ⟨t32, h33, h34⟩ := bind_some h31
          refine DL.quiet (v := .bool t32) rfl (Wn.yes c27 rfl rfl rfl rfl) rfl rfl rfl (f_callR rfl rfl (args_val (vs := [.int .i64 a0_3, .int .i64 t29]) rfl) (fun w => enter31 _ w) (fun w hc => policy_in.val h33 (M := M) w (hE.ext hc) )) ?_
          refine DL.pu 24 (.bool t32) rfl (p_pick_t c27 rfl rfl rfl) ?_
          obtain rfl := Option.some.inj h34
          exact DL.weak J26 (Sub.cons rfl (Sub.cons rfl (Sub.nil _)))
        · replace c27 := Bool.eq_false_iff.mpr c27
          have h35 := ite_false c27 h24
          refine DL.not (i := 15) rfl (Wn.no c27 rfl rfl rfl rfl) rfl rfl ?_
          refine DL.not (i := 16) rfl (Wn.no c27 rfl rfl rfl rfl) rfl rfl ?_
          refine DL.not (i := 17) rfl (Wn.no c27 rfl rfl rfl rfl) rfl rfl ?_
          refine DL.not (i := 18) rfl (Wn.no c27 rfl rfl rfl rfl) rfl rfl ?_
          refine DL.not (i := 19) rfl (Wn.no c27 rfl rfl rfl rfl) rfl rfl ?_
          refine DL.not (i := 20) rfl (Wn.no c27 rfl rfl rfl rfl) rfl rfl ?_
          refine DL.pu 24 (.bool false) rfl (p_pick_f c27 rfl rfl rfl) ?_
          obtain rfl := Option.some.inj h35
          exact DL.weak J26 (Sub.cons rfl (Sub.cons rfl (Sub.nil _)))
    · by_cases c19 : q7 = true
      · have h20 := ite_true c19 h16
        refine DL.pure (v := ptr b1 1) rfl (Wn.yes c19 rfl rfl rfl rfl) rfl rfl rfl (p_fieldAddr ty_f26_1 rfl rfl) ?_
        refine DL.look (v := .int .i64 a0_1) (x := 0) (b := b1) (i := 11) rfl (Wn.yes c19 rfl rfl rfl rfl) rfl rfl rfl rfl rfl (List.mem_of_getElem? (i := 0) rfl) (b_load ty_a23 rfl rfl rfl) ?_
        refine DL.pure (v := .bool (decide (a0_1 ≤ 4))) rfl (Wn.yes c19 rfl rfl rfl rfl) rfl rfl rfl (p_leq rfl rfl rfl) ?_
        refine DL.pu 16 (.bool (decide (a0_1 ≤ 4))) rfl (p_pick_t c19 rfl rfl rfl) ?_
        obtain rfl := Option.some.inj h20
        exact DL.weak J18 (Sub.cons rfl (Sub.cons rfl (Sub.nil _)))
      · replace c19 := Bool.eq_false_iff.mpr c19
        have h21 := ite_false c19 h16
        refine DL.not (i := 10) rfl (Wn.no c19 rfl rfl rfl rfl) rfl rfl ?_
        refine DL.not (i := 11) rfl (Wn.no c19 rfl rfl rfl rfl) rfl rfl ?_
        refine DL.not (i := 12) rfl (Wn.no c19 rfl rfl rfl rfl) rfl rfl ?_
        refine DL.pu 16 (.bool false) rfl (p_pick_f c19 rfl rfl rfl) ?_
        obtain rfl := Option.some.inj h21
        exact DL.weak J18 (Sub.cons rfl (Sub.cons rfl (Sub.nil _)))
  · by_cases c11 : (t3 != 0) = true
    · have h12 := ite_true c11 h8
      refine DL.pure (v := ptr b1 1) rfl (Wn.yes c11 rfl rfl rfl rfl) rfl rfl rfl (p_fieldAddr ty_f26_1 rfl rfl) ?_
      refine DL.look (v := .int .i64 a0_1) (x := 0) (b := b1) (i := 6) rfl (Wn.yes c11 rfl rfl rfl rfl) rfl rfl rfl rfl rfl (List.mem_of_getElem? (i := 0) rfl) (b_load ty_a23 rfl rfl rfl) ?_
      refine DL.pure (v := .bool (decide (1 ≤ a0_1))) rfl (Wn.yes c11 rfl rfl rfl rfl) rfl rfl rfl (p_geq rfl rfl rfl) ?_
      refine DL.pu 11 (.bool (decide (1 ≤ a0_1))) rfl (p_pick_t c11 rfl rfl rfl) ?_
      obtain rfl := Option.some.inj h12
      exact DL.weak J10 (Sub.cons rfl (Sub.cons rfl (Sub.nil _)))
    · replace c11 := Bool.eq_false_iff.mpr c11
      have h13 := ite_false c11 h8
      refine DL.not (i := 5) rfl (Wn.no c11 rfl rfl rfl rfl) rfl rfl ?_
      refine DL.not (i := 6) rfl (Wn.no c11 rfl rfl rfl rfl) rfl rfl ?_
      refine DL.not (i := 7) rfl (Wn.no c11 rfl rfl rfl rfl) rfl rfl ?_
      refine DL.pu 11 (.bool false) rfl (p_pick_f c11 rfl rfl rfl) ?_
      obtain rfl := Option.some.inj h13
      exact DL.weak J10 (Sub.cons rfl (Sub.cons rfl (Sub.nil _)))
theorem policy_MayCard.val {a0_0 : Int} {a0_1 : Int} {a0_2 : Int} {a0_3 : Int} {r : Bool} (h : policy_MayCard.f a0_0 a0_1 a0_2 a0_3 = some r) {M : Mem} (w : World) (hM : Ext M (heapOf w)) : Calls Try.prog 22 #[.agg #[.int .i64 a0_0, .int .i64 a0_1, .int .i64 a0_2, .int .i64 a0_3]] w fun e w' => e = .returned (.bool r) ∧ Below w.heap.size w w' :=
  calls_value (policy_MayCard.ok h w hM)

/-! ### escutcheon/escutcheonref21.MayCard: function 23 -/
noncomputable def B23 : Code := bodyOf Try.f23
def ref21_MayCard.f (a0_0 : Int) (a0_1 : Int) (a0_2 : Int) (a0_3 : Int) : Option (Bool) := (if (decide (1 ≤ a0_0)) = true then (some (decide (a0_0 ≤ 3))) else (some false)).bind fun q4 => (if q4 = true then (some (decide (1 ≤ a0_1))) else (some false)).bind fun q12 => (if q12 = true then (some (decide (a0_1 ≤ 4))) else (some false)).bind fun q20 => (if q20 = true then ((ref21_OfType.f a0_0).bind fun t34 => (ref21_In.f a0_3 t34).bind fun t37 => some t37) else (some false)).bind fun q28 => (if q28 = true then ((ref21_In.f a0_2 a0_3).bind fun t48 => some t48) else (some false)).bind fun q42 => (if q42 = true then ((if (a0_1 != 2) = true then (some true) else ((ref21_Has.f a0_3 1).bind fun t67 => some t67)).bind fun q60 => some q60) else (some false)).bind fun q53 => some q53
set_option maxRecDepth 20000 in
theorem ref21_MayCard.ok {a0_0 : Int} {a0_1 : Int} {a0_2 : Int} {a0_3 : Int} {r : Bool} (h : ref21_MayCard.f a0_0 a0_1 a0_2 a0_3 = some r) {M : Mem} (w : World) (hM : Ext M (heapOf w)) : Calls Try.prog 23 #[.agg #[.int .i64 a0_0, .int .i64 a0_1, .int .i64 a0_2, .int .i64 a0_3]] w (Post (fun u => u = .bool r) w) := by
  unfold ref21_MayCard.f at h
  have hE := Env.start hM
  refine calls_of_TT (N := 46) (S := [(0, .agg #[.int .i64 a0_0, .int .i64 a0_1, .int .i64 a0_2, .int .i64 a0_3])]) (c := B23) Try.func23 rfl rfl rfl (by simp) ?_
  show TT _ _ _ _ _ _ [.code (sub [] B23)] _ _
  refine TT.seq (x := sub [0] B23) (y := sub [1] B23) ?_
  refine TT.region (id := 0) (n := 2) (ops := (opsOf (sub [0] B23))) [(.alloc, none), (.pure, none)] rfl ?_
  show DL _ _ _ _ _ _ _ _ _ _ [0, 1] _ _
  refine DL.new (ob := .cells (#[.int .i64 a0_0, .int .i64 a0_1, .int .i64 a0_2, .int .i64 a0_3]) 26) (mk := fun b => ptr b 0) (i := 0) rfl (Wn.none rfl) rfl rfl rfl (f_box (v := .agg #[.int .i64 a0_0, .int .i64 a0_1, .int .i64 a0_2, .int .i64 a0_3]) rfl rfl) ?_
  intro b1 hb1
  refine DL.pu 2 (.bool false) rfl (p_assign rfl rfl) ?_
  refine DL.nil ?_
  refine TT.seq (x := sub [1, 0] B23) (y := sub [1, 1] B23) ?_
  refine TT.regionD (id := 1) (ops := (opsOf (sub [1, 0] B23))) [0, 1, 2, 3, 4, 5, 6, 7, 8, 9, 10, 11, 12, 13, 14, 15, 16, 17, 18, 19, 20, 21, 22, 23, 24, 25, 26, 27, 28, 29, 30, 31, 32, 33, 34, 35, 36, 37, 38, 39, 40, 41, 42, 43] [0, 1, 3, 7, 15, 31, 63, 127, 255, 511, 1023, 2047, 4095, 8191, 16383, 32767, 65535, 131071, 262143, 524287, 1048575, 524287, 2621439, 6815743, 16777215, 33554431, 67108863, 134217727, 268435455, 134217727, 671088639, 2147483647, 4294967295, 8589934591, 17179869183, 34359738367, 68719476735, 137438953471, 274877906943, 549755813887, 1099511627775, 2199023255551, 4398046511103, 8796093022207] [(.pure, none), (.look, some 0), (.pure, none), (.pure, none), (.pure, none), (.look, some 0), (.pure, none), (.pure, none), (.pure, none), (.pure, none), (.look, some 0), (.pure, none), (.pure, none), (.pure, none), (.pure, none), (.look, some 0), (.pure, none), (.pure, none), (.pure, none), (.pure, none), (.look, some 0), (.pure, none), (.look, some 0), (.quiet, none), (.quiet, none), (.pure, none), (.pure, none), (.pure, none), (.look, some 0), (.pure, none), (.look, some 0), (.quiet, none), (.pure, none), (.pure, none), (.pure, none), (.look, some 0), (.pure, none), (.pure, none), (.pure, none), (.look, some 0), (.quiet, none), (.pure, none), (.pure, none), (.pure, none)] mixed (by kernel_rfl) ?_
  intro w2 hl2 hj2 hz2
  refine DL.pu 3 (ptr b1 0) rfl (p_fieldAddr ty_f26_0 rfl rfl) ?_
  refine DL.look (v := .int .i64 a0_0) (x := 0) (b := b1) (i := 1) rfl (Wn.none rfl) rfl rfl rfl rfl rfl (List.mem_of_getElem? (i := 0) rfl) (b_load ty_a22 rfl rfl rfl) ?_
  refine DL.pu 5 (.bool (decide (1 ≤ a0_0))) rfl (p_geq rfl rfl rfl) ?_
  refine DL.pu 6 (.bool (decide (1 ≤ a0_0))) rfl (p_move rfl rfl) ?_
  obtain ⟨q4, h5, h6⟩ := bind_some h
  refine DL.cut [(1, ptr b1 0), (10, .bool q4)] [8, 9, 10, 11, 12, 13, 14, 15, 16, 17, 18, 19, 20, 21, 22, 23, 24, 25, 26, 27, 28, 29, 30, 31, 32, 33, 34, 35, 36, 37, 38, 39, 40, 41, 42, 43] ?_ (fun J7 => ?_)
  · refine DL.pu 11 (.bool q4) rfl (p_move rfl rfl) ?_
    obtain ⟨q12, h13, h14⟩ := bind_some h6
    refine DL.cut [(1, ptr b1 0), (15, .bool q12)] [13, 14, 15, 16, 17, 18, 19, 20, 21, 22, 23, 24, 25, 26, 27, 28, 29, 30, 31, 32, 33, 34, 35, 36, 37, 38, 39, 40, 41, 42, 43] ?_ (fun J15 => ?_)
    · refine DL.pu 16 (.bool q12) rfl (p_move rfl rfl) ?_
      obtain ⟨q20, h21, h22⟩ := bind_some h14
      refine DL.cut [(1, ptr b1 0), (20, .bool q20)] [18, 19, 20, 21, 22, 23, 24, 25, 26, 27, 28, 29, 30, 31, 32, 33, 34, 35, 36, 37, 38, 39, 40, 41, 42, 43] ?_ (fun J23 => ?_)
      · refine DL.pu 21 (.bool q20) rfl (p_move rfl rfl) ?_
        obtain ⟨q28, h29, h30⟩ := bind_some h22
        refine DL.cut [(1, ptr b1 0), (28, .bool q28)] [26, 27, 28, 29, 30, 31, 32, 33, 34, 35, 36, 37, 38, 39, 40, 41, 42, 43] ?_ (fun J31 => ?_)
        · refine DL.pu 29 (.bool q28) rfl (p_move rfl rfl) ?_
          obtain ⟨q42, h43, h44⟩ := bind_some h30
          refine DL.cut [(1, ptr b1 0), (35, .bool q42)] [33, 34, 35, 36, 37, 38, 39, 40, 41, 42, 43] ?_ (fun J45 => ?_)
          · refine DL.pu 36 (.bool q42) rfl (p_move rfl rfl) ?_
            obtain ⟨q53, h54, h55⟩ := bind_some h44
            refine DL.cut [(45, .bool q53)] [43] ?_ (fun J56 => ?_)
            · refine DL.pu 2 (.bool q53) rfl (p_assign rfl rfl) ?_
              refine DL.nil' hl2 ?_
              obtain rfl := Option.some.inj h55
              exact retnE (rs := [.tmp 2]) (vs := [.bool q53]) hE.base Try.func23 rfl rfl rfl (res_cons (ResV.tmp rfl) res_nil) rfl
            · by_cases c57 : q42 = true
              · have h58 := ite_true c57 h54
                refine DL.pure (v := ptr b1 1) rfl (Wn.yes c57 rfl rfl rfl rfl) rfl rfl rfl (p_fieldAddr ty_f26_1 rfl rfl) ?_
                refine DL.look (v := .int .i64 a0_1) (x := 0) (b := b1) (i := 35) rfl (Wn.yes c57 rfl rfl rfl rfl) rfl rfl rfl rfl rfl (List.mem_of_getElem? (i := 0) rfl) (b_load ty_a23 rfl rfl rfl) ?_
                refine DL.pure (v := .bool (a0_1 != 2)) rfl (Wn.yes c57 rfl rfl rfl rfl) rfl rfl rfl (p_neq rfl rfl rfl) ?_
                refine DL.pure (v := .bool (a0_1 != 2)) rfl (Wn.yes c57 rfl rfl rfl rfl) rfl rfl rfl (p_move rfl rfl) ?_
                obtain ⟨q60, h61, h62⟩ := bind_some h58
                refine DL.cut [(36, .bool q42), (44, .bool q60)] [42, 43] ?_ (fun J63 => ?_)
                · refine DL.pu 45 (.bool q60) rfl (p_pick_t c57 rfl rfl rfl) ?_
                  obtain rfl := Option.some.inj h62
                  exact DL.weak J56 (Sub.cons rfl (Sub.nil _))
                · by_cases c64 : (a0_1 != 2) = true
                  · have h65 := ite_true c64 h61
                    refine DL.not (i := 38) rfl (Wn.yes c64 rfl rfl rfl rfl) rfl rfl ?_
                    refine DL.not (i := 39) rfl (Wn.yes c64 rfl rfl rfl rfl) rfl rfl ?_
                    refine DL.not (i := 40) rfl (Wn.yes c64 rfl rfl rfl rfl) rfl rfl ?_
                    refine DL.pure (v := .bool true) rfl (Wn.yes c57 rfl rfl rfl rfl) rfl rfl rfl (p_pick_t c64 rfl rfl rfl) ?_
                    obtain rfl := Option.some.inj h65
                    exact DL.weak J63 (Sub.cons rfl (Sub.cons rfl (Sub.nil _)))
                  · replace c64 := Bool.eq_false_iff.mpr c64
                    have h66 := ite_false c64 h61
                    refine DL.pure (v := ptr b1 3) rfl (Wn.no c64 rfl rfl rfl rfl) rfl rfl rfl (p_fieldAddr ty_f26_3 rfl rfl) ?_
                    refine DL.look (v := .int .i64 a0_3) (x := 0) (b := b1) (i := 39) rfl (Wn.no c64 rfl rfl rfl rfl) rfl rfl rfl rfl rfl (List.mem_of_getElem? (i := 0) rfl) (b_load ty_a24 rfl rfl rfl) ?_
                    obtain ⟨t67, h68, h69⟩ := bind_some h66
                    refine DL.quiet (v := .bool t67) rfl (Wn.no c64 rfl rfl rfl rfl) rfl rfl rfl (f_callR rfl rfl (args_val (vs := [.int .i64 a0_3, .int .i64 1]) rfl) (fun w => enter34 _ w) (fun w hc => ref21_Has.val h68 (M := M) w (hE.ext hc) )) ?_
                    refine DL.pure (v := .bool t67) rfl (Wn.yes c57 rfl rfl rfl rfl) rfl rfl rfl (p_pick_f c64 rfl rfl rfl) ?_
                    obtain rfl := Option.some.inj h69
                    exact DL.weak J63 (Sub.cons rfl (Sub.cons rfl (Sub.nil _)))
              · replace c57 := Bool.eq_false_iff.mpr c57
                have h70 := ite_false c57 h54
                refine DL.not (i := 34) rfl (Wn.no c57 rfl rfl rfl rfl) rfl rfl ?_
                refine DL.not (i := 35) rfl (Wn.no c57 rfl rfl rfl rfl) rfl rfl ?_
                refine DL.not (i := 36) rfl (Wn.no c57 rfl rfl rfl rfl) rfl rfl ?_
                refine DL.not (i := 37) rfl (Wn.no c57 rfl rfl rfl rfl) rfl rfl ?_
                refine DL.not (i := 38) rfl (Wn.undef rfl rfl rfl) rfl rfl ?_
                refine DL.not (i := 39) rfl (Wn.undef rfl rfl rfl) rfl rfl ?_
                refine DL.not (i := 40) rfl (Wn.undef rfl rfl rfl) rfl rfl ?_
                refine DL.not (i := 41) rfl (Wn.no c57 rfl rfl rfl rfl) rfl rfl ?_
                refine DL.pu 45 (.bool false) rfl (p_pick_f c57 rfl rfl rfl) ?_
                obtain rfl := Option.some.inj h70
                exact DL.weak J56 (Sub.cons rfl (Sub.nil _))
          · by_cases c46 : q28 = true
            · have h47 := ite_true c46 h43
              refine DL.pure (v := ptr b1 2) rfl (Wn.yes c46 rfl rfl rfl rfl) rfl rfl rfl (p_fieldAddr ty_f26_2 rfl rfl) ?_
              refine DL.look (v := .int .i64 a0_2) (x := 0) (b := b1) (i := 28) rfl (Wn.yes c46 rfl rfl rfl rfl) rfl rfl rfl rfl rfl (List.mem_of_getElem? (i := 0) rfl) (b_load ty_a24 rfl rfl rfl) ?_
              refine DL.pure (v := ptr b1 3) rfl (Wn.yes c46 rfl rfl rfl rfl) rfl rfl rfl (p_fieldAddr ty_f26_3 rfl rfl) ?_
              refine DL.look (v := .int .i64 a0_3) (x := 0) (b := b1) (i := 30) rfl (Wn.yes c46 rfl rfl rfl rfl) rfl rfl rfl rfl rfl (List.mem_of_getElem? (i := 0) rfl) (b_load ty_a24 rfl rfl rfl) ?_
              obtain ⟨t48, h49, h50⟩ := bind_some h47
              refine DL.quiet (v := .bool t48) rfl (Wn.yes c46 rfl rfl rfl rfl) rfl rfl rfl (f_callR rfl rfl (args_val (vs := [.int .i64 a0_2, .int .i64 a0_3]) rfl) (fun w => enter32 _ w) (fun w hc => ref21_In.val h49 (M := M) w (hE.ext hc) )) ?_
              refine DL.pu 35 (.bool t48) rfl (p_pick_t c46 rfl rfl rfl) ?_
              obtain rfl := Option.some.inj h50
              exact DL.weak J45 (Sub.cons rfl (Sub.cons rfl (Sub.nil _)))
            · replace c46 := Bool.eq_false_iff.mpr c46
              have h51 := ite_false c46 h43
              refine DL.not (i := 27) rfl (Wn.no c46 rfl rfl rfl rfl) rfl rfl ?_
              refine DL.not (i := 28) rfl (Wn.no c46 rfl rfl rfl rfl) rfl rfl ?_
              refine DL.not (i := 29) rfl (Wn.no c46 rfl rfl rfl rfl) rfl rfl ?_
              refine DL.not (i := 30) rfl (Wn.no c46 rfl rfl rfl rfl) rfl rfl ?_
              refine DL.not (i := 31) rfl (Wn.no c46 rfl rfl rfl rfl) rfl rfl ?_
              refine DL.pu 35 (.bool false) rfl (p_pick_f c46 rfl rfl rfl) ?_
              obtain rfl := Option.some.inj h51
              exact DL.weak J45 (Sub.cons rfl (Sub.cons rfl (Sub.nil _)))
        · by_cases c32 : q20 = true
          · have h33 := ite_true c32 h29
            refine DL.pure (v := ptr b1 3) rfl (Wn.yes c32 rfl rfl rfl rfl) rfl rfl rfl (p_fieldAddr ty_f26_3 rfl rfl) ?_
            refine DL.look (v := .int .i64 a0_3) (x := 0) (b := b1) (i := 20) rfl (Wn.yes c32 rfl rfl rfl rfl) rfl rfl rfl rfl rfl (List.mem_of_getElem? (i := 0) rfl) (b_load ty_a24 rfl rfl rfl) ?_
            refine DL.pure (v := ptr b1 0) rfl (Wn.yes c32 rfl rfl rfl rfl) rfl rfl rfl (p_fieldAddr ty_f26_0 rfl rfl) ?_
            refine DL.look (v := .int .i64 a0_0) (x := 0) (b := b1) (i := 22) rfl (Wn.yes c32 rfl rfl rfl rfl) rfl rfl rfl rfl rfl (List.mem_of_getElem? (i := 0) rfl) (b_load ty_a22 rfl rfl rfl) ?_
            obtain ⟨t34, h35, h36⟩ := bind_some h33
            refine DL.quiet (v := .int .i64 t34) rfl (Wn.yes c32 rfl rfl rfl rfl) rfl rfl rfl (f_callR rfl rfl (args_val (vs := [.int .i64 a0_0]) rfl) (fun w => enter26 _ w) (fun w hc => ref21_OfType.val h35 (M := M) w (hE.ext hc) )) ?_
            obtain ⟨t37, h38, h39⟩ := bind_some h36
            refine DL.quiet (v := .bool t37) rfl (Wn.yes c32 rfl rfl rfl rfl) rfl rfl rfl (f_callR rfl rfl (args_val (vs := [.int .i64 a0_3, .int .i64 t34]) rfl) (fun w => enter32 _ w) (fun w hc => ref21_In.val h38 (M := M) w (hE.ext hc) )) ?_
            refine DL.pu 28 (.bool t37) rfl (p_pick_t c32 rfl rfl rfl) ?_
            obtain rfl := Option.some.inj h39
            exact DL.weak J31 (Sub.cons rfl (Sub.cons rfl (Sub.nil _)))
          · replace c32 := Bool.eq_false_iff.mpr c32
            have h40 := ite_false c32 h29
            refine DL.not (i := 19) rfl (Wn.no c32 rfl rfl rfl rfl) rfl rfl ?_
            refine DL.not (i := 20) rfl (Wn.no c32 rfl rfl rfl rfl) rfl rfl ?_
            refine DL.not (i := 21) rfl (Wn.no c32 rfl rfl rfl rfl) rfl rfl ?_
            refine DL.not (i := 22) rfl (Wn.no c32 rfl rfl rfl rfl) rfl rfl ?_
            refine DL.not (i := 23) rfl (Wn.no c32 rfl rfl rfl rfl) rfl rfl ?_
            refine DL.not (i := 24) rfl (Wn.no c32 rfl rfl rfl rfl) rfl rfl ?_
            refine DL.pu 28 (.bool false) rfl (p_pick_f c32 rfl rfl rfl) ?_
            obtain rfl := Option.some.inj h40
            exact DL.weak J31 (Sub.cons rfl (Sub.cons rfl (Sub.nil _)))
      · by_cases c24 : q12 = true
        · have h25 := ite_true c24 h21
          refine DL.pure (v := ptr b1 1) rfl (Wn.yes c24 rfl rfl rfl rfl) rfl rfl rfl (p_fieldAddr ty_f26_1 rfl rfl) ?_
          refine DL.look (v := .int .i64 a0_1) (x := 0) (b := b1) (i := 15) rfl (Wn.yes c24 rfl rfl rfl rfl) rfl rfl rfl rfl rfl (List.mem_of_getElem? (i := 0) rfl) (b_load ty_a23 rfl rfl rfl) ?_
          refine DL.pure (v := .bool (decide (a0_1 ≤ 4))) rfl (Wn.yes c24 rfl rfl rfl rfl) rfl rfl rfl (p_leq rfl rfl rfl) ?_
          refine DL.pu 20 (.bool (decide (a0_1 ≤ 4))) rfl (p_pick_t c24 rfl rfl rfl) ?_
          obtain rfl := Option.some.inj h25
          exact DL.weak J23 (Sub.cons rfl (Sub.cons rfl (Sub.nil _)))
        · replace c24 := Bool.eq_false_iff.mpr c24
          have h26 := ite_false c24 h21
          refine DL.not (i := 14) rfl (Wn.no c24 rfl rfl rfl rfl) rfl rfl ?_
          refine DL.not (i := 15) rfl (Wn.no c24 rfl rfl rfl rfl) rfl rfl ?_
          refine DL.not (i := 16) rfl (Wn.no c24 rfl rfl rfl rfl) rfl rfl ?_
          refine DL.pu 20 (.bool false) rfl (p_pick_f c24 rfl rfl rfl) ?_
          obtain rfl := Option.some.inj h26
          exact DL.weak J23 (Sub.cons rfl (Sub.cons rfl (Sub.nil _)))
    · by_cases c16 : q4 = true
      · have h17 := ite_true c16 h13
        refine DL.pure (v := ptr b1 1) rfl (Wn.yes c16 rfl rfl rfl rfl) rfl rfl rfl (p_fieldAddr ty_f26_1 rfl rfl) ?_
        refine DL.look (v := .int .i64 a0_1) (x := 0) (b := b1) (i := 10) rfl (Wn.yes c16 rfl rfl rfl rfl) rfl rfl rfl rfl rfl (List.mem_of_getElem? (i := 0) rfl) (b_load ty_a23 rfl rfl rfl) ?_
        refine DL.pure (v := .bool (decide (1 ≤ a0_1))) rfl (Wn.yes c16 rfl rfl rfl rfl) rfl rfl rfl (p_geq rfl rfl rfl) ?_
        refine DL.pu 15 (.bool (decide (1 ≤ a0_1))) rfl (p_pick_t c16 rfl rfl rfl) ?_
        obtain rfl := Option.some.inj h17
        exact DL.weak J15 (Sub.cons rfl (Sub.cons rfl (Sub.nil _)))
      · replace c16 := Bool.eq_false_iff.mpr c16
        have h18 := ite_false c16 h13
        refine DL.not (i := 9) rfl (Wn.no c16 rfl rfl rfl rfl) rfl rfl ?_
        refine DL.not (i := 10) rfl (Wn.no c16 rfl rfl rfl rfl) rfl rfl ?_
        refine DL.not (i := 11) rfl (Wn.no c16 rfl rfl rfl rfl) rfl rfl ?_
        refine DL.pu 15 (.bool false) rfl (p_pick_f c16 rfl rfl rfl) ?_
        obtain rfl := Option.some.inj h18
        exact DL.weak J15 (Sub.cons rfl (Sub.cons rfl (Sub.nil _)))
  · by_cases c8 : (decide (1 ≤ a0_0)) = true
    · have h9 := ite_true c8 h5
      refine DL.pure (v := ptr b1 0) rfl (Wn.yes c8 rfl rfl rfl rfl) rfl rfl rfl (p_fieldAddr ty_f26_0 rfl rfl) ?_
      refine DL.look (v := .int .i64 a0_0) (x := 0) (b := b1) (i := 5) rfl (Wn.yes c8 rfl rfl rfl rfl) rfl rfl rfl rfl rfl (List.mem_of_getElem? (i := 0) rfl) (b_load ty_a22 rfl rfl rfl) ?_
      refine DL.pure (v := .bool (decide (a0_0 ≤ 3))) rfl (Wn.yes c8 rfl rfl rfl rfl) rfl rfl rfl (p_leq rfl rfl rfl) ?_
      refine DL.pu 10 (.bool (decide (a0_0 ≤ 3))) rfl (p_pick_t c8 rfl rfl rfl) ?_
      obtain rfl := Option.some.inj h9
      exact DL.weak J7 (Sub.cons rfl (Sub.cons rfl (Sub.nil _)))
    · replace c8 := Bool.eq_false_iff.mpr c8
      have h10 := ite_false c8 h5
      refine DL.not (i := 4) rfl (Wn.no c8 rfl rfl rfl rfl) rfl rfl ?_
      refine DL.not (i := 5) rfl (Wn.no c8 rfl rfl rfl rfl) rfl rfl ?_
      refine DL.not (i := 6) rfl (Wn.no c8 rfl rfl rfl rfl) rfl rfl ?_
      refine DL.pu 10 (.bool false) rfl (p_pick_f c8 rfl rfl rfl) ?_
      obtain rfl := Option.some.inj h10
      exact DL.weak J7 (Sub.cons rfl (Sub.cons rfl (Sub.nil _)))
theorem ref21_MayCard.val {a0_0 : Int} {a0_1 : Int} {a0_2 : Int} {a0_3 : Int} {r : Bool} (h : ref21_MayCard.f a0_0 a0_1 a0_2 a0_3 = some r) {M : Mem} (w : World) (hM : Ext M (heapOf w)) : Calls Try.prog 23 #[.agg #[.int .i64 a0_0, .int .i64 a0_1, .int .i64 a0_2, .int .i64 a0_3]] w fun e w' => e = .returned (.bool r) ∧ Below w.heap.size w w' :=
  calls_value (ref21_MayCard.ok h w hM)

/-! ### escutcheon/policy.Kept: function 21 -/
noncomputable def B21 : Code := bodyOf Try.f21
def policy_Kept.f (a0_0 : Int) (a0_1 : Int) (a0_2 : Int) (a0_3 : Int) : Option (Bool) := (policy_MayCard.f a0_0 a0_1 a0_2 a0_3).bind fun t2 => (if t2 = true then (some ((iand .i64 a0_3 1) == 0)) else (some false)).bind fun q6 => some q6
set_option maxRecDepth 20000 in
theorem policy_Kept.ok {a0_0 : Int} {a0_1 : Int} {a0_2 : Int} {a0_3 : Int} {r : Bool} (h : policy_Kept.f a0_0 a0_1 a0_2 a0_3 = some r) {M : Mem} (w : World) (hM : Ext M (heapOf w)) : Calls Try.prog 21 #[.agg #[.int .i64 a0_0, .int .i64 a0_1, .int .i64 a0_2, .int .i64 a0_3]] w (Post (fun u => u = .bool r) w) := by
  unfold policy_Kept.f at h
  have hE := Env.start hM
  refine calls_of_TT (N := 11) (S := [(0, .agg #[.int .i64 a0_0, .int .i64 a0_1, .int .i64 a0_2, .int .i64 a0_3])]) (c := B21) Try.func21 rfl rfl rfl (by simp) ?_
  show TT _ _ _ _ _ _ [.code (sub [] B21)] _ _
  refine TT.seq (x := sub [0] B21) (y := sub [1] B21) ?_
  refine TT.region (id := 0) (n := 2) (ops := (opsOf (sub [0] B21))) [(.alloc, none), (.pure, none)] rfl ?_
  show DL _ _ _ _ _ _ _ _ _ _ [0, 1] _ _
  refine DL.new (ob := .cells (#[.int .i64 a0_0, .int .i64 a0_1, .int .i64 a0_2, .int .i64 a0_3]) 26) (mk := fun b => ptr b 0) (i := 0) rfl (Wn.none rfl) rfl rfl rfl (f_box (v := .agg #[.int .i64 a0_0, .int .i64 a0_1, .int .i64 a0_2, .int .i64 a0_3]) rfl rfl) ?_
  intro b1 hb1
  refine DL.pu 2 (.bool false) rfl (p_assign rfl rfl) ?_
  refine DL.nil ?_
  refine TT.seq (x := sub [1, 0] B21) (y := sub [1, 1] B21) ?_
  refine TT.region (id := 1) (n := 9) (ops := (opsOf (sub [1, 0] B21))) [(.quiet, none), (.quiet, none), (.pure, none), (.pure, none), (.quiet, none), (.pure, none), (.pure, none), (.pure, none), (.pure, none)] rfl ?_
  show DL _ _ _ _ _ _ _ _ _ _ [0, 1, 2, 3, 4, 5, 6, 7, 8] _ _
  refine DL.qu 3 (.agg #[.int .i64 a0_0, .int .i64 a0_1, .int .i64 a0_2, .int .i64 a0_3]) rfl (f_loadA (j := 0) ty_a26 ty_s26 rfl rfl rfl rfl) ?_
  obtain ⟨t2, h3, h4⟩ := bind_some h
  refine DL.qu 4 (.bool t2) rfl (f_callR rfl rfl (args_val (vs := [.agg #[.int .i64 a0_0, .int .i64 a0_1, .int .i64 a0_2, .int .i64 a0_3]]) rfl) (fun w => enter22 _ w) (fun w hc => policy_MayCard.val h3 (M := M) w (hE.ext hc) )) ?_
  refine DL.pu 5 (.bool t2) rfl (p_move rfl rfl) ?_
  obtain ⟨q6, h7, h8⟩ := bind_some h4
  refine DL.cut [(10, .bool q6)] [8] ?_ (fun J9 => ?_)
  · refine DL.pu 2 (.bool q6) rfl (p_assign rfl rfl) ?_
    refine DL.nil ?_
    obtain rfl := Option.some.inj h8
    exact retnE (rs := [.tmp 2]) (vs := [.bool q6]) hE.base Try.func21 rfl rfl rfl (res_cons (ResV.tmp rfl) res_nil) rfl
  · by_cases c10 : t2 = true
    · have h11 := ite_true c10 h7
      refine DL.pure (v := ptr b1 3) rfl (Wn.yes c10 rfl rfl rfl rfl) rfl rfl rfl (p_fieldAddr ty_f26_3 rfl rfl) ?_
      refine DL.quiet (v := .int .i64 a0_3) rfl (Wn.yes c10 rfl rfl rfl rfl) rfl rfl rfl (f_load (j := 0) ty_a24 rfl rfl rfl rfl) ?_
      refine DL.pure (v := .int .i64 (iand .i64 a0_3 1)) rfl (Wn.yes c10 rfl rfl rfl rfl) rfl rfl rfl (p_and rfl rfl rfl) ?_
      refine DL.pure (v := .bool ((iand .i64 a0_3 1) == 0)) rfl (Wn.yes c10 rfl rfl rfl rfl) rfl rfl rfl (p_eql rfl rfl rfl) ?_
      refine DL.pu 10 (.bool ((iand .i64 a0_3 1) == 0)) rfl (p_pick_t c10 rfl rfl rfl) ?_
      obtain rfl := Option.some.inj h11
      exact DL.weak J9 (Sub.cons rfl (Sub.nil _))
    · replace c10 := Bool.eq_false_iff.mpr c10
      have h12 := ite_false c10 h7
      refine DL.not (i := 3) rfl (Wn.no c10 rfl rfl rfl rfl) rfl rfl ?_
      refine DL.not (i := 4) rfl (Wn.no c10 rfl rfl rfl rfl) rfl rfl ?_
      refine DL.not (i := 5) rfl (Wn.no c10 rfl rfl rfl rfl) rfl rfl ?_
      refine DL.not (i := 6) rfl (Wn.no c10 rfl rfl rfl rfl) rfl rfl ?_
      refine DL.pu 10 (.bool false) rfl (p_pick_f c10 rfl rfl rfl) ?_
      obtain rfl := Option.some.inj h12
      exact DL.weak J9 (Sub.cons rfl (Sub.nil _))
theorem policy_Kept.val {a0_0 : Int} {a0_1 : Int} {a0_2 : Int} {a0_3 : Int} {r : Bool} (h : policy_Kept.f a0_0 a0_1 a0_2 a0_3 = some r) {M : Mem} (w : World) (hM : Ext M (heapOf w)) : Calls Try.prog 21 #[.agg #[.int .i64 a0_0, .int .i64 a0_1, .int .i64 a0_2, .int .i64 a0_3]] w fun e w' => e = .returned (.bool r) ∧ Below w.heap.size w w' :=
  calls_value (policy_Kept.ok h w hM)

/-! ### escutcheon/escutcheonref21.Kept: function 24 -/
noncomputable def B24 : Code := bodyOf Try.f24
def ref21_Kept.f (a0_0 : Int) (a0_1 : Int) (a0_2 : Int) (a0_3 : Int) : Option (Bool) := (ref21_MayCard.f a0_0 a0_1 a0_2 a0_3).bind fun t2 => (if t2 = true then ((ref21_Has.f a0_3 1).bind fun t12 => some (!t12)) else (some false)).bind fun q6 => some q6
set_option maxRecDepth 20000 in
theorem ref21_Kept.ok {a0_0 : Int} {a0_1 : Int} {a0_2 : Int} {a0_3 : Int} {r : Bool} (h : ref21_Kept.f a0_0 a0_1 a0_2 a0_3 = some r) {M : Mem} (w : World) (hM : Ext M (heapOf w)) : Calls Try.prog 24 #[.agg #[.int .i64 a0_0, .int .i64 a0_1, .int .i64 a0_2, .int .i64 a0_3]] w (Post (fun u => u = .bool r) w) := by
  unfold ref21_Kept.f at h
  have hE := Env.start hM
  refine calls_of_TT (N := 11) (S := [(0, .agg #[.int .i64 a0_0, .int .i64 a0_1, .int .i64 a0_2, .int .i64 a0_3])]) (c := B24) Try.func24 rfl rfl rfl (by simp) ?_
  show TT _ _ _ _ _ _ [.code (sub [] B24)] _ _
  refine TT.seq (x := sub [0] B24) (y := sub [1] B24) ?_
  refine TT.region (id := 0) (n := 2) (ops := (opsOf (sub [0] B24))) [(.alloc, none), (.pure, none)] rfl ?_
  show DL _ _ _ _ _ _ _ _ _ _ [0, 1] _ _
  refine DL.new (ob := .cells (#[.int .i64 a0_0, .int .i64 a0_1, .int .i64 a0_2, .int .i64 a0_3]) 26) (mk := fun b => ptr b 0) (i := 0) rfl (Wn.none rfl) rfl rfl rfl (f_box (v := .agg #[.int .i64 a0_0, .int .i64 a0_1, .int .i64 a0_2, .int .i64 a0_3]) rfl rfl) ?_
  intro b1 hb1
  refine DL.pu 2 (.bool false) rfl (p_assign rfl rfl) ?_
  refine DL.nil ?_
  refine TT.seq (x := sub [1, 0] B24) (y := sub [1, 1] B24) ?_
  refine TT.region (id := 1) (n := 9) (ops := (opsOf (sub [1, 0] B24))) [(.quiet, none), (.quiet, none), (.pure, none), (.pure, none), (.quiet, none), (.quiet, none), (.pure, none), (.pure, none), (.pure, none)] rfl ?_
  show DL _ _ _ _ _ _ _ _ _ _ [0, 1, 2, 3, 4, 5, 6, 7, 8] _ _
  refine DL.qu 3 (.agg #[.int .i64 a0_0, .int .i64 a0_1, .int .i64 a0_2, .int .i64 a0_3]) rfl (f_loadA (j := 0) ty_a26 ty_s26 rfl rfl rfl rfl) ?_
  obtain ⟨t2, h3, h4⟩ := bind_some h
  refine DL.qu 4 (.bool t2) rfl (f_callR rfl rfl (args_val (vs := [.agg #[.int .i64 a0_0, .int .i64 a0_1, .int .i64 a0_2, .int .i64 a0_3]]) rfl) (fun w => enter23 _ w) (fun w hc => ref21_MayCard.val h3 (M := M) w (hE.ext hc) )) ?_
  refine DL.pu 5 (.bool t2) rfl (p_move rfl rfl) ?_
  obtain ⟨q6, h7, h8⟩ := bind_some h4
  refine DL.cut [(10, .bool q6)] [8] ?_ (fun J9 => ?_)
  · refine DL.pu 2 (.bool q6) rfl (p_assign rfl rfl) ?_
    refine DL.nil ?_
    obtain rfl := Option.some.inj h8
    exact retnE (rs := [.tmp 2]) (vs := [.bool q6]) hE.base Try.func24 rfl rfl rfl (res_cons (ResV.tmp rfl) res_nil) rfl
  · by_cases c10 : t2 = true
    · have h11 := ite_true c10 h7
      refine DL.pure (v := ptr b1 3) rfl (Wn.yes c10 rfl rfl rfl rfl) rfl rfl rfl (p_fieldAddr ty_f26_3 rfl rfl) ?_
      refine DL.quiet (v := .int .i64 a0_3) rfl (Wn.yes c10 rfl rfl rfl rfl) rfl rfl rfl (f_load (j := 0) ty_a24 rfl rfl rfl rfl) ?_
      obtain ⟨t12, h13, h14⟩ := bind_some h11
      refine DL.quiet (v := .bool t12) rfl (Wn.yes c10 rfl rfl rfl rfl) rfl rfl rfl (f_callR rfl rfl (args_val (vs := [.int .i64 a0_3, .int .i64 1]) rfl) (fun w => enter34 _ w) (fun w hc => ref21_Has.val h13 (M := M) w (hE.ext hc) )) ?_
      refine DL.pure (v := .bool (!t12)) rfl (Wn.yes c10 rfl rfl rfl rfl) rfl rfl rfl (p_not rfl rfl) ?_
      refine DL.pu 10 (.bool (!t12)) rfl (p_pick_t c10 rfl rfl rfl) ?_
      obtain rfl := Option.some.inj h14
      exact DL.weak J9 (Sub.cons rfl (Sub.nil _))
    · replace c10 := Bool.eq_false_iff.mpr c10
      have h15 := ite_false c10 h7
      refine DL.not (i := 3) rfl (Wn.no c10 rfl rfl rfl rfl) rfl rfl ?_
      refine DL.not (i := 4) rfl (Wn.no c10 rfl rfl rfl rfl) rfl rfl ?_
      refine DL.not (i := 5) rfl (Wn.no c10 rfl rfl rfl rfl) rfl rfl ?_
      refine DL.not (i := 6) rfl (Wn.no c10 rfl rfl rfl rfl) rfl rfl ?_
      refine DL.pu 10 (.bool false) rfl (p_pick_f c10 rfl rfl rfl) ?_
      obtain rfl := Option.some.inj h15
      exact DL.weak J9 (Sub.cons rfl (Sub.nil _))
theorem ref21_Kept.val {a0_0 : Int} {a0_1 : Int} {a0_2 : Int} {a0_3 : Int} {r : Bool} (h : ref21_Kept.f a0_0 a0_1 a0_2 a0_3 = some r) {M : Mem} (w : World) (hM : Ext M (heapOf w)) : Calls Try.prog 24 #[.agg #[.int .i64 a0_0, .int .i64 a0_1, .int .i64 a0_2, .int .i64 a0_3]] w fun e w' => e = .returned (.bool r) ∧ Below w.heap.size w w' :=
  calls_value (ref21_Kept.ok h w hM)

/-! ### escutcheon/policy.mayAsk: function 29 -/
noncomputable def B29 : Code := bodyOf Try.f29
def policy_mayAsk.f (a0 : Int) (a1 : Int) : Option (Bool) := (policy_OfType.f a0).bind fun t1 => (if (t1 != 0) = true then ((policy_in.f a1 63).bind fun t11 => some t11) else (some false)).bind fun q5 => some q5
set_option maxRecDepth 20000 in
theorem policy_mayAsk.ok {a0 : Int} {a1 : Int} {r : Bool} (h : policy_mayAsk.f a0 a1 = some r) {M : Mem} (w : World) (hM : Ext M (heapOf w)) : Calls Try.prog 29 #[.int .i64 a0, .int .i64 a1] w (Post (fun u => u = .bool r) w) := by
  unfold policy_mayAsk.f at h
  have hE := Env.start hM
  refine calls_of_TT (N := 12) (S := [(0, .int .i64 a0), (1, .int .i64 a1)]) (c := B29) Try.func29 rfl rfl rfl (by simp) ?_
  show TT _ _ _ _ _ _ [.code (sub [] B29)] _ _
  refine TT.seq (x := sub [0] B29) (y := sub [1] B29) ?_
  refine TT.region (id := 0) (n := 1) (ops := (opsOf (sub [0] B29))) [(.pure, none)] rfl ?_
  show DL _ _ _ _ _ _ _ _ _ _ [0] _ _
  refine DL.pu 4 (.bool false) rfl (p_assign rfl rfl) ?_
  refine DL.nil ?_
  refine TT.seq (x := sub [1, 0] B29) (y := sub [1, 1] B29) ?_
  refine TT.region (id := 1) (n := 8) (ops := (opsOf (sub [1, 0] B29))) [(.pure, none), (.quiet, none), (.pure, none), (.pure, none), (.pure, none), (.quiet, none), (.pure, none), (.pure, none)] rfl ?_
  show DL _ _ _ _ _ _ _ _ _ _ [0, 1, 2, 3, 4, 5, 6, 7] _ _
  refine DL.pu 5 (.int .i64 a0) rfl (p_move rfl rfl) ?_
  obtain ⟨t1, h2, h3⟩ := bind_some h
  refine DL.qu 6 (.int .i64 t1) rfl (f_callR rfl rfl (args_val (vs := [.int .i64 a0]) rfl) (fun w => enter25 _ w) (fun w hc => policy_OfType.val h2 (M := M) w (hE.ext hc) )) ?_
  refine DL.pu 7 (.bool (t1 != 0)) rfl (p_neq rfl rfl rfl) ?_
  refine DL.pu 8 (.bool (t1 != 0)) rfl (p_move rfl rfl) ?_
  obtain ⟨q5, h6, h7⟩ := bind_some h3
  refine DL.cut [(11, .bool q5)] [7] ?_ (fun J8 => ?_)
  · refine DL.pu 4 (.bool q5) rfl (p_assign rfl rfl) ?_
    refine DL.nil ?_
    obtain rfl := Option.some.inj h7
    exact retnE (rs := [.tmp 4]) (vs := [.bool q5]) hE.base Try.func29 rfl rfl rfl (res_cons (ResV.tmp rfl) res_nil) rfl
  · by_cases c9 : (t1 != 0) = true
    · have h10 := ite_true c9 h6
      refine DL.pure (v := .int .i64 a1) rfl (Wn.yes c9 rfl rfl rfl rfl) rfl rfl rfl (p_move rfl rfl) ?_
      obtain ⟨t11, h12, h13⟩ := bind_some h10
      refine DL.quiet (v := .bool t11) rfl (Wn.yes c9 rfl rfl rfl rfl) rfl rfl rfl (f_callR rfl rfl (args_val (vs := [.int .i64 a1, .int .i64 63]) rfl) (fun w => enter31 _ w) (fun w hc => policy_in.val h12 (M := M) w (hE.ext hc) )) ?_
      refine DL.pu 11 (.bool t11) rfl (p_pick_t c9 rfl rfl rfl) ?_
      obtain rfl := Option.some.inj h13
      exact DL.weak J8 (Sub.cons rfl (Sub.nil _))
    · replace c9 := Bool.eq_false_iff.mpr c9
      have h14 := ite_false c9 h6
      refine DL.not (i := 4) rfl (Wn.no c9 rfl rfl rfl rfl) rfl rfl ?_
      refine DL.not (i := 5) rfl (Wn.no c9 rfl rfl rfl rfl) rfl rfl ?_
      refine DL.pu 11 (.bool false) rfl (p_pick_f c9 rfl rfl rfl) ?_
      obtain rfl := Option.some.inj h14
      exact DL.weak J8 (Sub.cons rfl (Sub.nil _))
theorem policy_mayAsk.val {a0 : Int} {a1 : Int} {r : Bool} (h : policy_mayAsk.f a0 a1 = some r) {M : Mem} (w : World) (hM : Ext M (heapOf w)) : Calls Try.prog 29 #[.int .i64 a0, .int .i64 a1] w fun e w' => e = .returned (.bool r) ∧ Below w.heap.size w w' :=
  calls_value (policy_mayAsk.ok h w hM)

/-! ### escutcheon/policy.child: function 30 -/
noncomputable def B30 : Code := bodyOf Try.f30
def policy_child.f (a0 : Int) (a1 : Int) (a2 : Int) (a3 : Bool) : Option (Int × Int × Int × Int × Int) := (if a3 = true then (some (a1, a0, a2, ior .i64 a2 1)) else (some (a1, a0, a2, a2))).bind fun (j_b2_4_0, j_b2_4_1, j_b2_4_2, j_b2_4_3) => (policy_OfType.f a1).bind fun t11 => (policy_in.f a2 t11).bind fun t14 => if (!t14) = true then (some (0, 0, 0, 0, 12)) else (some (j_b2_4_0, j_b2_4_1, j_b2_4_2, j_b2_4_3, 0))
set_option maxRecDepth 20000 in
theorem policy_child.ok {a0 : Int} {a1 : Int} {a2 : Int} {a3 : Bool} {r_0_0 : Int} {r_0_1 : Int} {r_0_2 : Int} {r_0_3 : Int} {r_1 : Int} (h : policy_child.f a0 a1 a2 a3 = some (r_0_0, r_0_1, r_0_2, r_0_3, r_1)) {M : Mem} (w : World) (hM : Ext M (heapOf w)) : Calls Try.prog 30 #[.int .i64 a0, .int .i64 a1, .int .i64 a2, .bool a3] w (Post (fun u => u = .tuple #[.agg #[.int .i64 r_0_0, .int .i64 r_0_1, .int .i64 r_0_2, .int .i64 r_0_3], .int .i64 r_1]) w) := by
  unfold policy_child.f at h
  have hE := Env.start hM
  refine calls_of_TT (N := 28) (S := [(0, .int .i64 a0), (1, .int .i64 a1), (2, .int .i64 a2), (3, .bool a3)]) (c := B30) Try.func30 rfl rfl rfl (by simp) ?_
  show TT _ _ _ _ _ _ [.code (sub [] B30)] _ _
  refine TT.seq (x := sub [0] B30) (y := sub [1] B30) ?_
  refine TT.region (id := 0) (n := 2) (ops := (opsOf (sub [0] B30))) [(.alloc, none), (.pure, none)] rfl ?_
  show DL _ _ _ _ _ _ _ _ _ _ [0, 1] _ _
  refine DL.new (ob := .cells (#[.int .i64 0, .int .i64 0, .int .i64 0, .int .i64 0]) 26) (mk := fun b => ptr b 0) (i := 0) rfl (Wn.none rfl) rfl rfl rfl (f_alloc ty_z26 rfl) ?_
  intro b1 hb1
  refine DL.pu 9 (.int .i64 0) rfl (p_assign rfl rfl) ?_
  refine DL.nil ?_
  refine TT.seq (x := sub [1, 0] B30) (y := sub [1, 1] B30) ?_
  refine TT.region (id := 1) (n := 7) (ops := (opsOf (sub [1, 0] B30))) [(.pure, none), (.pure, none), (.pure, none), (.pure, none), (.pure, none), (.alloc, none), (.store, none)] rfl ?_
  show DL _ _ _ _ _ _ _ _ _ _ [0, 1, 2, 3, 4, 5, 6] _ _
  refine DL.pu 11 (.int .i64 a1) rfl (p_move rfl rfl) ?_
  refine DL.pu 12 (.int .i64 a0) rfl (p_move rfl rfl) ?_
  refine DL.pu 13 (.int .i64 a2) rfl (p_move rfl rfl) ?_
  refine DL.pu 14 (.int .i64 a2) rfl (p_move rfl rfl) ?_
  refine DL.pu 15 (.agg #[.int .i64 a1, .int .i64 a0, .int .i64 a2, .int .i64 a2]) rfl (p_build (vs := [(0, .int .i64 a1), (1, .int .i64 a0), (2, .int .i64 a2), (3, .int .i64 a2)]) (fun w => by kernel_rfl) rfl rfl) ?_
  refine DL.new (ob := .cells (#[.int .i64 0, .int .i64 0, .int .i64 0, .int .i64 0]) 26) (mk := fun b => ptr b 0) (i := 5) rfl (Wn.none rfl) rfl rfl rfl (f_alloc ty_z26 rfl) ?_
  intro b2 hb2
  refine DL.put (H' := [(some b2, .cells (#[.int .i64 a1, .int .i64 a0, .int .i64 a2, .int .i64 a2]) 26 (0, 0)), (some b1, .cells (#[.int .i64 0, .int .i64 0, .int .i64 0, .int .i64 0]) 26 (0, 0))]) (i := 6) rfl (Wn.none rfl) rfl rfl (f_storeA (j := 0) ty_s26 rfl rfl rfl (by simp [OneCell]) rfl rfl rfl) (keep_none rfl) ?_
  refine DL.nil ?_
  refine TT.seq (x := sub [1, 1, 0] B30) (y := sub [1, 1, 1] B30) ?_
  refine TT.seq (x := sub [1, 1, 0, 0] B30) (y := sub [1, 1, 0, 1] B30) ?_
  refine TT.region (id := 2) (n := 1) (ops := (opsOf (sub [1, 1, 0, 0] B30))) [(.pure, none)] rfl ?_
  show DL _ _ _ _ _ _ _ _ _ _ [0] _ _
  refine DL.pu 16 (.bool a3) rfl (p_move rfl rfl) ?_
  refine DL.nil ?_
  obtain ⟨⟨j_b2_4_0, j_b2_4_1, j_b2_4_2, j_b2_4_3⟩, h5, h6⟩ := bind_some h
  have J7 : TT Try.prog 30 (Post (fun u => u = .tuple #[.agg #[.int .i64 r_0_0, .int .i64 r_0_1, .int .i64 r_0_2, .int .i64 r_0_3], .int .i64 r_1]) w) 28 w (heapOf w) (.code (sub [1, 1, 1] B30) :: []) [(1, .int .i64 a1), (2, .int .i64 a2), (8, ptr b1 0), (10, ptr b2 0)] [(some b2, .cells (#[.int .i64 j_b2_4_0, .int .i64 j_b2_4_1, .int .i64 j_b2_4_2, .int .i64 j_b2_4_3]) 26 (0, 0)), (some b1, .cells (#[.int .i64 0, .int .i64 0, .int .i64 0, .int .i64 0]) 26 (0, 0))] := by
    refine TT.seq (x := sub [1, 1, 1, 0] B30) (y := sub [1, 1, 1, 1] B30) ?_
    refine TT.seq (x := sub [1, 1, 1, 0, 0] B30) (y := sub [1, 1, 1, 0, 1] B30) ?_
    refine TT.region (id := 4) (n := 5) (ops := (opsOf (sub [1, 1, 1, 0, 0] B30))) [(.pure, none), (.pure, none), (.quiet, none), (.quiet, none), (.pure, none)] rfl ?_
    show DL _ _ _ _ _ _ _ _ _ _ [0, 1, 2, 3, 4] _ _
    refine DL.pu 21 (.int .i64 a2) rfl (p_move rfl rfl) ?_
    refine DL.pu 22 (.int .i64 a1) rfl (p_move rfl rfl) ?_
    obtain ⟨t11, h12, h13⟩ := bind_some h6
    refine DL.qu 23 (.int .i64 t11) rfl (f_callR rfl rfl (args_val (vs := [.int .i64 a1]) rfl) (fun w => enter25 _ w) (fun w hc => policy_OfType.val h12 (M := M) w (hE.ext hc) )) ?_
    obtain ⟨t14, h15, h16⟩ := bind_some h13
    refine DL.qu 24 (.bool t14) rfl (f_callR rfl rfl (args_val (vs := [.int .i64 a2, .int .i64 t11]) rfl) (fun w => enter31 _ w) (fun w hc => policy_in.val h15 (M := M) w (hE.ext hc) )) ?_
    refine DL.pu 25 (.bool (!t14)) rfl (p_not rfl rfl) ?_
    refine DL.nil ?_
    by_cases c17 : (!t14) = true
    · have h18 := ite_true c17 h16
      refine TT.cond_true (x := sub [1, 1, 1, 0, 1, 0] B30) (y := sub [1, 1, 1, 0, 1, 1] B30) rfl c17 ?_
      refine TT.seq (x := sub [1, 1, 1, 0, 1, 0, 0] B30) (y := sub [1, 1, 1, 0, 1, 0, 1] B30) ?_
      refine TT.region (id := 5) (n := 3) (ops := (opsOf (sub [1, 1, 1, 0, 1, 0, 0] B30))) [(.pure, none), (.store, none), (.pure, none)] rfl ?_
      show DL _ _ _ _ _ _ _ _ _ _ [0, 1, 2] _ _
      refine DL.pu 26 (.agg #[.int .i64 0, .int .i64 0, .int .i64 0, .int .i64 0]) rfl (p_build (vs := []) (fun w => by kernel_rfl) rfl rfl) ?_
      refine DL.put (H' := [(some b2, .cells (#[.int .i64 j_b2_4_0, .int .i64 j_b2_4_1, .int .i64 j_b2_4_2, .int .i64 j_b2_4_3]) 26 (0, 0)), (some b1, .cells (#[.int .i64 0, .int .i64 0, .int .i64 0, .int .i64 0]) 26 (0, 0))]) (i := 1) rfl (Wn.none rfl) rfl rfl (f_storeA (j := 1) ty_s26 rfl rfl rfl (by simp [OneCell]) rfl rfl rfl) (keep_none rfl) ?_
      refine DL.pu 9 (.int .i64 12) rfl (p_assign rfl rfl) ?_
      refine DL.nil ?_
      simp only [Option.some.injEq, Prod.mk.injEq] at h18
      obtain ⟨rfl, rfl, rfl, rfl, rfl⟩ := h18
      exact retnE (rs := [.cell 8 26, .tmp 9]) (vs := [.agg #[.int .i64 0, .int .i64 0, .int .i64 0, .int .i64 0], .int .i64 12]) hE.base Try.func30 rfl rfl rfl (res_cons (ResV.cell (j := 1) ty_a26 ty_s26 rfl rfl rfl) (res_cons (ResV.tmp rfl) res_nil)) rfl
    · replace c17 := Bool.eq_false_iff.mpr c17
      have h19 := ite_false c17 h16
      refine TT.cond_false (x := sub [1, 1, 1, 0, 1, 0] B30) (y := sub [1, 1, 1, 0, 1, 1] B30) rfl c17 ?_
      refine TT.skip ?_
      refine TT.seq (x := sub [1, 1, 1, 1, 0] B30) (y := sub [1, 1, 1, 1, 1] B30) ?_
      refine TT.region (id := 6) (n := 3) (ops := (opsOf (sub [1, 1, 1, 1, 0] B30))) [(.quiet, none), (.store, none), (.pure, none)] rfl ?_
      show DL _ _ _ _ _ _ _ _ _ _ [0, 1, 2] _ _
      refine DL.qu 27 (.agg #[.int .i64 j_b2_4_0, .int .i64 j_b2_4_1, .int .i64 j_b2_4_2, .int .i64 j_b2_4_3]) rfl (f_loadA (j := 0) ty_a26 ty_s26 rfl rfl rfl rfl) ?_
      refine DL.put (H' := [(some b2, .cells (#[.int .i64 j_b2_4_0, .int .i64 j_b2_4_1, .int .i64 j_b2_4_2, .int .i64 j_b2_4_3]) 26 (0, 0)), (some b1, .cells (#[.int .i64 j_b2_4_0, .int .i64 j_b2_4_1, .int .i64 j_b2_4_2, .int .i64 j_b2_4_3]) 26 (0, 0))]) (i := 1) rfl (Wn.none rfl) rfl rfl (f_storeA (j := 1) ty_s26 rfl rfl rfl (by simp [OneCell]) rfl rfl rfl) (keep_none rfl) ?_
      refine DL.pu 9 (.int .i64 0) rfl (p_assign rfl rfl) ?_
      refine DL.nil ?_
      simp only [Option.some.injEq, Prod.mk.injEq] at h19
      obtain ⟨rfl, rfl, rfl, rfl, rfl⟩ := h19
      exact retnE (rs := [.cell 8 26, .tmp 9]) (vs := [.agg #[.int .i64 j_b2_4_0, .int .i64 j_b2_4_1, .int .i64 j_b2_4_2, .int .i64 j_b2_4_3], .int .i64 0]) hE.base Try.func30 rfl rfl rfl (res_cons (ResV.cell (j := 1) ty_a26 ty_s26 rfl rfl rfl) (res_cons (ResV.tmp rfl) res_nil)) rfl
  by_cases c3 : a3 = true
  · have h9 := ite_true c3 h5
    refine TT.cond_true (x := sub [1, 1, 0, 1, 0] B30) (y := sub [1, 1, 0, 1, 1] B30) rfl c3 ?_
    refine TT.region (id := 3) (n := 5) (ops := (opsOf (sub [1, 1, 0, 1, 0] B30))) [(.pure, none), (.quiet, none), (.pure, none), (.pure, none), (.store, none)] rfl ?_
    show DL _ _ _ _ _ _ _ _ _ _ [0, 1, 2, 3, 4] _ _
    refine DL.pu 17 (ptr b2 3) rfl (p_fieldAddr ty_f26_3 rfl rfl) ?_
    refine DL.qu 18 (.int .i64 a2) rfl (f_load (j := 0) ty_a24 rfl rfl rfl rfl) ?_
    refine DL.pu 19 (.int .i64 (ior .i64 a2 1)) rfl (p_or rfl rfl rfl) ?_
    refine DL.pu 20 (ptr b2 3) rfl (p_fieldAddr ty_f26_3 rfl rfl) ?_
    refine DL.put (H' := [(some b2, .cells (#[.int .i64 a1, .int .i64 a0, .int .i64 a2, .int .i64 (ior .i64 a2 1)]) 26 (0, 0)), (some b1, .cells (#[.int .i64 0, .int .i64 0, .int .i64 0, .int .i64 0]) 26 (0, 0))]) (i := 4) rfl (Wn.none rfl) rfl rfl (f_store (c := #[.int .i64 a1, .int .i64 a0, .int .i64 a2, .int .i64 a2]) (v := .int .i64 (ior .i64 a2 1)) (off := 3) (j := 0) ty_s24 rfl rfl (of_decide_eq_true rfl) trivial rfl rfl rfl) (keep_none rfl) ?_
    refine DL.nil ?_
    simp only [Option.some.injEq, Prod.mk.injEq] at h9
    obtain ⟨rfl, rfl, rfl, rfl⟩ := h9
    exact TT.weak (J7 ) (Sub.cons rfl (Sub.cons rfl (Sub.cons rfl (Sub.cons rfl (Sub.nil _)))))
  · replace c3 := Bool.eq_false_iff.mpr c3
    have h10 := ite_false c3 h5
    refine TT.cond_false (x := sub [1, 1, 0, 1, 0] B30) (y := sub [1, 1, 0, 1, 1] B30) rfl c3 ?_
    refine TT.skip ?_
    simp only [Option.some.injEq, Prod.mk.injEq] at h10
    obtain ⟨rfl, rfl, rfl, rfl⟩ := h10
    exact TT.weak (J7 ) (Sub.cons rfl (Sub.cons rfl (Sub.cons rfl (Sub.cons rfl (Sub.nil _)))))
theorem policy_child.val {a0 : Int} {a1 : Int} {a2 : Int} {a3 : Bool} {r_0_0 : Int} {r_0_1 : Int} {r_0_2 : Int} {r_0_3 : Int} {r_1 : Int} (h : policy_child.f a0 a1 a2 a3 = some (r_0_0, r_0_1, r_0_2, r_0_3, r_1)) {M : Mem} (w : World) (hM : Ext M (heapOf w)) : Calls Try.prog 30 #[.int .i64 a0, .int .i64 a1, .int .i64 a2, .bool a3] w fun e w' => e = .returned (.tuple #[.agg #[.int .i64 r_0_0, .int .i64 r_0_1, .int .i64 r_0_2, .int .i64 r_0_3], .int .i64 r_1]) ∧ Below w.heap.size w w' :=
  calls_value (policy_child.ok h w hM)

/-! ### escutcheon/policy.New: function 7 -/
noncomputable def B7 : Code := bodyOf Try.f7
def policy_New.f (a0 : Int) (a1 : Int) (a2 : Int) : Option (Int × Int × Int × Int × Int) := (if (a0 != 1) = true then (some (a0 != 2)) else (some false)).bind fun q3 => (if q3 = true then (some true) else ((policy_mayAsk.f a1 a2).bind fun t18 => some (!t18))).bind fun q11 => if q11 = true then (some (0, 0, 0, 0, 2)) else ((policy_child.f a0 a1 a2 (a0 == 2)).bind fun (t24_0_0, t24_0_1, t24_0_2, t24_0_3, t24_1) => some (t24_0_0, t24_0_1, t24_0_2, t24_0_3, t24_1))
set_option maxRecDepth 20000 in
theorem policy_New.ok {a0 : Int} {a1 : Int} {a2 : Int} {r_0_0 : Int} {r_0_1 : Int} {r_0_2 : Int} {r_0_3 : Int} {r_1 : Int} (h : policy_New.f a0 a1 a2 = some (r_0_0, r_0_1, r_0_2, r_0_3, r_1)) {M : Mem} (w : World) (hM : Ext M (heapOf w)) : Calls Try.prog 7 #[.int .i64 a0, .int .i64 a1, .int .i64 a2] w (Post (fun u => u = .tuple #[.agg #[.int .i64 r_0_0, .int .i64 r_0_1, .int .i64 r_0_2, .int .i64 r_0_3], .int .i64 r_1]) w) := by
  unfold policy_New.f at h
  have hE := Env.start hM
  refine calls_of_TT (N := 29) (S := [(0, .int .i64 a0), (1, .int .i64 a1), (2, .int .i64 a2)]) (c := B7) Try.func7 rfl rfl rfl (by simp) ?_
  show TT _ _ _ _ _ _ [.code (sub [] B7)] _ _
  refine TT.seq (x := sub [0] B7) (y := sub [1] B7) ?_
  refine TT.region (id := 0) (n := 2) (ops := (opsOf (sub [0] B7))) [(.alloc, none), (.pure, none)] rfl ?_
  show DL _ _ _ _ _ _ _ _ _ _ [0, 1] _ _
  refine DL.new (ob := .cells (#[.int .i64 0, .int .i64 0, .int .i64 0, .int .i64 0]) 26) (mk := fun b => ptr b 0) (i := 0) rfl (Wn.none rfl) rfl rfl rfl (f_alloc ty_z26 rfl) ?_
  intro b1 hb1
  refine DL.pu 7 (.int .i64 0) rfl (p_assign rfl rfl) ?_
  refine DL.nil ?_
  refine TT.seq (x := sub [1, 0] B7) (y := sub [1, 1] B7) ?_
  refine TT.seq (x := sub [1, 0, 0] B7) (y := sub [1, 0, 1] B7) ?_
  refine TT.region (id := 1) (n := 12) (ops := (opsOf (sub [1, 0, 0] B7))) [(.pure, none), (.pure, none), (.pure, none), (.pure, none), (.pure, none), (.pure, none), (.pure, none), (.pure, none), (.pure, none), (.quiet, none), (.pure, none), (.pure, none)] rfl ?_
  show DL _ _ _ _ _ _ _ _ _ _ [0, 1, 2, 3, 4, 5, 6, 7, 8, 9, 10, 11] _ _
  refine DL.pu 8 (.int .i64 a0) rfl (p_move rfl rfl) ?_
  refine DL.pu 9 (.bool (a0 != 1)) rfl (p_neq rfl rfl rfl) ?_
  refine DL.pu 10 (.bool (a0 != 1)) rfl (p_move rfl rfl) ?_
  obtain ⟨q3, h4, h5⟩ := bind_some h
  refine DL.cut [(0, .int .i64 a0), (1, .int .i64 a1), (2, .int .i64 a2), (6, ptr b1 0), (13, .bool q3)] [6, 7, 8, 9, 10, 11] ?_ (fun J6 => ?_)
  · refine DL.pu 14 (.bool q3) rfl (p_move rfl rfl) ?_
    obtain ⟨q11, h12, h13⟩ := bind_some h5
    refine DL.cut [(0, .int .i64 a0), (1, .int .i64 a1), (2, .int .i64 a2), (6, ptr b1 0), (19, .bool q11)] [] ?_ (fun J14 => ?_)
    · refine DL.nil ?_
      by_cases c21 : q11 = true
      · have h22 := ite_true c21 h13
        refine TT.cond_true (x := sub [1, 0, 1, 0] B7) (y := sub [1, 0, 1, 1] B7) rfl c21 ?_
        refine TT.seq (x := sub [1, 0, 1, 0, 0] B7) (y := sub [1, 0, 1, 0, 1] B7) ?_
        refine TT.region (id := 2) (n := 3) (ops := (opsOf (sub [1, 0, 1, 0, 0] B7))) [(.pure, none), (.store, none), (.pure, none)] rfl ?_
        show DL _ _ _ _ _ _ _ _ _ _ [0, 1, 2] _ _
        refine DL.pu 20 (.agg #[.int .i64 0, .int .i64 0, .int .i64 0, .int .i64 0]) rfl (p_build (vs := []) (fun w => by kernel_rfl) rfl rfl) ?_
        refine DL.put (H' := [(some b1, .cells (#[.int .i64 0, .int .i64 0, .int .i64 0, .int .i64 0]) 26 (0, 0))]) (i := 1) rfl (Wn.none rfl) rfl rfl (f_storeA (j := 0) ty_s26 rfl rfl rfl (by simp [OneCell]) rfl rfl rfl) (keep_none rfl) ?_
        refine DL.pu 7 (.int .i64 2) rfl (p_assign rfl rfl) ?_
        refine DL.nil ?_
        simp only [Option.some.injEq, Prod.mk.injEq] at h22
        obtain ⟨rfl, rfl, rfl, rfl, rfl⟩ := h22
        exact retnE (rs := [.cell 6 26, .tmp 7]) (vs := [.agg #[.int .i64 0, .int .i64 0, .int .i64 0, .int .i64 0], .int .i64 2]) hE.base Try.func7 rfl rfl rfl (res_cons (ResV.cell (j := 0) ty_a26 ty_s26 rfl rfl rfl) (res_cons (ResV.tmp rfl) res_nil)) rfl
      · replace c21 := Bool.eq_false_iff.mpr c21
        have h23 := ite_false c21 h13
        refine TT.cond_false (x := sub [1, 0, 1, 0] B7) (y := sub [1, 0, 1, 1] B7) rfl c21 ?_
        refine TT.skip ?_
        refine TT.seq (x := sub [1, 1, 0] B7) (y := sub [1, 1, 1] B7) ?_
        refine TT.region (id := 3) (n := 10) (ops := (opsOf (sub [1, 1, 0] B7))) [(.pure, none), (.pure, none), (.pure, none), (.pure, none), (.pure, none), (.quiet, none), (.pure, none), (.pure, none), (.store, none), (.pure, none)] rfl ?_
        show DL _ _ _ _ _ _ _ _ _ _ [0, 1, 2, 3, 4, 5, 6, 7, 8, 9] _ _
        refine DL.pu 21 (.int .i64 a0) rfl (p_move rfl rfl) ?_
        refine DL.pu 22 (.int .i64 a1) rfl (p_move rfl rfl) ?_
        refine DL.pu 23 (.int .i64 a2) rfl (p_move rfl rfl) ?_
        refine DL.pu 24 (.int .i64 a0) rfl (p_move rfl rfl) ?_
        refine DL.pu 25 (.bool (a0 == 2)) rfl (p_eql rfl rfl rfl) ?_
        obtain ⟨⟨t24_0_0, t24_0_1, t24_0_2, t24_0_3, t24_1⟩, h25, h26⟩ := bind_some h23
        refine DL.qu 26 (.tuple #[.agg #[.int .i64 t24_0_0, .int .i64 t24_0_1, .int .i64 t24_0_2, .int .i64 t24_0_3], .int .i64 t24_1]) rfl (f_callR rfl rfl (args_val (vs := [.int .i64 a0, .int .i64 a1, .int .i64 a2, .bool (a0 == 2)]) rfl) (fun w => enter30 _ w) (fun w hc => policy_child.val h25 (M := M) w (hE.ext hc) )) ?_
        refine DL.pu 27 (.agg #[.int .i64 t24_0_0, .int .i64 t24_0_1, .int .i64 t24_0_2, .int .i64 t24_0_3]) rfl (p_extract rfl rfl rfl) ?_
        refine DL.pu 28 (.int .i64 t24_1) rfl (p_extract rfl rfl rfl) ?_
        refine DL.put (H' := [(some b1, .cells (#[.int .i64 t24_0_0, .int .i64 t24_0_1, .int .i64 t24_0_2, .int .i64 t24_0_3]) 26 (0, 0))]) (i := 8) rfl (Wn.none rfl) rfl rfl (f_storeA (j := 0) ty_s26 rfl rfl rfl (by simp [OneCell]) rfl rfl rfl) (keep_none rfl) ?_
        refine DL.pu 7 (.int .i64 t24_1) rfl (p_assign rfl rfl) ?_
        refine DL.nil ?_
        simp only [Option.some.injEq, Prod.mk.injEq] at h26
        obtain ⟨rfl, rfl, rfl, rfl, rfl⟩ := h26
        exact retnE (rs := [.cell 6 26, .tmp 7]) (vs := [.agg #[.int .i64 t24_0_0, .int .i64 t24_0_1, .int .i64 t24_0_2, .int .i64 t24_0_3], .int .i64 t24_1]) hE.base Try.func7 rfl rfl rfl (res_cons (ResV.cell (j := 0) ty_a26 ty_s26 rfl rfl rfl) (res_cons (ResV.tmp rfl) res_nil)) rfl
    · by_cases c15 : q3 = true
      · have h16 := ite_true c15 h12
        refine DL.not (i := 7) rfl (Wn.yes c15 rfl rfl rfl rfl) rfl rfl ?_
        refine DL.not (i := 8) rfl (Wn.yes c15 rfl rfl rfl rfl) rfl rfl ?_
        refine DL.not (i := 9) rfl (Wn.yes c15 rfl rfl rfl rfl) rfl rfl ?_
        refine DL.not (i := 10) rfl (Wn.yes c15 rfl rfl rfl rfl) rfl rfl ?_
        refine DL.pu 19 (.bool true) rfl (p_pick_t c15 rfl rfl rfl) ?_
        obtain rfl := Option.some.inj h16
        exact DL.weak J14 (Sub.cons rfl (Sub.cons rfl (Sub.cons rfl (Sub.cons rfl (Sub.cons rfl (Sub.nil _))))))
      · replace c15 := Bool.eq_false_iff.mpr c15
        have h17 := ite_false c15 h12
        refine DL.pure (v := .int .i64 a1) rfl (Wn.no c15 rfl rfl rfl rfl) rfl rfl rfl (p_move rfl rfl) ?_
        refine DL.pure (v := .int .i64 a2) rfl (Wn.no c15 rfl rfl rfl rfl) rfl rfl rfl (p_move rfl rfl) ?_
        obtain ⟨t18, h19, h20⟩ := bind_some h17
        refine DL.quiet (v := .bool t18) rfl (Wn.no c15 rfl rfl rfl rfl) rfl rfl rfl (f_callR rfl rfl (args_val (vs := [.int .i64 a1, .int .i64 a2]) rfl) (fun w => enter29 _ w) (fun w hc => policy_mayAsk.val h19 (M := M) w (hE.ext hc) )) ?_
        refine DL.pure (v := .bool (!t18)) rfl (Wn.no c15 rfl rfl rfl rfl) rfl rfl rfl (p_not rfl rfl) ?_
        refine DL.pu 19 (.bool (!t18)) rfl (p_pick_f c15 rfl rfl rfl) ?_
        obtain rfl := Option.some.inj h20
        exact DL.weak J14 (Sub.cons rfl (Sub.cons rfl (Sub.cons rfl (Sub.cons rfl (Sub.cons rfl (Sub.nil _))))))
  · by_cases c7 : (a0 != 1) = true
    · have h8 := ite_true c7 h4
      refine DL.pure (v := .int .i64 a0) rfl (Wn.yes c7 rfl rfl rfl rfl) rfl rfl rfl (p_move rfl rfl) ?_
      refine DL.pure (v := .bool (a0 != 2)) rfl (Wn.yes c7 rfl rfl rfl rfl) rfl rfl rfl (p_neq rfl rfl rfl) ?_
      refine DL.pu 13 (.bool (a0 != 2)) rfl (p_pick_t c7 rfl rfl rfl) ?_
      obtain rfl := Option.some.inj h8
      exact DL.weak J6 (Sub.cons rfl (Sub.cons rfl (Sub.cons rfl (Sub.cons rfl (Sub.cons rfl (Sub.nil _))))))
    · replace c7 := Bool.eq_false_iff.mpr c7
      have h9 := ite_false c7 h4
      refine DL.not (i := 3) rfl (Wn.no c7 rfl rfl rfl rfl) rfl rfl ?_
      refine DL.not (i := 4) rfl (Wn.no c7 rfl rfl rfl rfl) rfl rfl ?_
      refine DL.pu 13 (.bool false) rfl (p_pick_f c7 rfl rfl rfl) ?_
      obtain rfl := Option.some.inj h9
      exact DL.weak J6 (Sub.cons rfl (Sub.cons rfl (Sub.cons rfl (Sub.cons rfl (Sub.cons rfl (Sub.nil _))))))
theorem policy_New.val {a0 : Int} {a1 : Int} {a2 : Int} {r_0_0 : Int} {r_0_1 : Int} {r_0_2 : Int} {r_0_3 : Int} {r_1 : Int} (h : policy_New.f a0 a1 a2 = some (r_0_0, r_0_1, r_0_2, r_0_3, r_1)) {M : Mem} (w : World) (hM : Ext M (heapOf w)) : Calls Try.prog 7 #[.int .i64 a0, .int .i64 a1, .int .i64 a2] w fun e w' => e = .returned (.tuple #[.agg #[.int .i64 r_0_0, .int .i64 r_0_1, .int .i64 r_0_2, .int .i64 r_0_3], .int .i64 r_1]) ∧ Below w.heap.size w w' :=
  calls_value (policy_New.ok h w hM)

/-! ### escutcheon/escutcheonlaw21.num: function 15 -/
noncomputable def B15 : Code := bodyOf Try.f15
def law21_num.f (a0 : Int) : Option (Int) := some a0
set_option maxRecDepth 20000 in
theorem law21_num.ok {a0 : Int} {r : Int} (h : law21_num.f a0 = some r) {M : Mem} (w : World) (hM : Ext M (heapOf w)) : Calls Try.prog 15 #[.int .i64 a0] w (Post (fun u => u = .int .i64 r) w) := by
  unfold law21_num.f at h
  have hE := Env.start hM
  refine calls_of_TT (N := 4) (S := [(0, .int .i64 a0)]) (c := B15) Try.func15 rfl rfl rfl (by simp) ?_
  show TT _ _ _ _ _ _ [.code (sub [] B15)] _ _
  refine TT.seq (x := sub [0] B15) (y := sub [1] B15) ?_
  refine TT.region (id := 0) (n := 1) (ops := (opsOf (sub [0] B15))) [(.pure, none)] rfl ?_
  show DL _ _ _ _ _ _ _ _ _ _ [0] _ _
  refine DL.pu 2 (.int .i64 0) rfl (p_assign rfl rfl) ?_
  refine DL.nil ?_
  refine TT.seq (x := sub [1, 0] B15) (y := sub [1, 1] B15) ?_
  refine TT.region (id := 1) (n := 2) (ops := (opsOf (sub [1, 0] B15))) [(.pure, none), (.pure, none)] rfl ?_
  show DL _ _ _ _ _ _ _ _ _ _ [0, 1] _ _
  refine DL.pu 3 (.int .i64 a0) rfl (p_move rfl rfl) ?_
  refine DL.pu 2 (.int .i64 a0) rfl (p_assign rfl rfl) ?_
  refine DL.nil ?_
  obtain rfl := Option.some.inj h
  exact retnE (rs := [.tmp 2]) (vs := [.int .i64 a0]) hE.base Try.func15 rfl rfl rfl (res_cons (ResV.tmp rfl) res_nil) rfl
theorem law21_num.val {a0 : Int} {r : Int} (h : law21_num.f a0 = some r) {M : Mem} (w : World) (hM : Ext M (heapOf w)) : Calls Try.prog 15 #[.int .i64 a0] w fun e w' => e = .returned (.int .i64 r) ∧ Below w.heap.size w w' :=
  calls_value (law21_num.ok h w hM)

/-! ### escutcheon/escutcheonlaw21.known: function 16 -/
noncomputable def B16 : Code := bodyOf Try.f16
def law21_known.f : Option (Bool) := (policy_New.f 1 1 36).bind fun (t1_0_0, t1_0_1, t1_0_2, t1_0_3, t1_1) => (policy_New.f 1 1 8).bind fun (t5_0_0, t5_0_1, t5_0_2, t5_0_3, t5_1) => (law21_num.f t1_1).bind fun t9 => (if (t9 == 0) = true then (nm (t1_0_0 == 1 && (t1_0_1 == 1 && (t1_0_2 == 36 && (t1_0_3 == 36 && true)))) fun t19 => some t19) else (some false)).bind fun q13 => (if q13 = true then ((policy_Kept.f t1_0_0 t1_0_1 t1_0_2 t1_0_3).bind fun t30 => some t30) else (some false)).bind fun q24 => (if q24 = true then ((law21_num.f t5_1).bind fun t41 => some (t41 == 12)) else (some false)).bind fun q35 => some q35
set_option maxRecDepth 20000 in
theorem law21_known.ok {r : Bool} (h : law21_known.f = some r) {M : Mem} (w : World) (hM : Ext M (heapOf w)) : Calls Try.prog 16 #[] w (Post (fun u => u = .bool r) w) := by
  unfold law21_known.f at h
  have hE := Env.start hM
  refine calls_of_TT (N := 30) (S := []) (c := B16) Try.func16 rfl rfl rfl (by simp) ?_
  show TT _ _ _ _ _ _ [.code (sub [] B16)] _ _
  refine TT.seq (x := sub [0] B16) (y := sub [1] B16) ?_
  refine TT.region (id := 0) (n := 1) (ops := (opsOf (sub [0] B16))) [(.pure, none)] rfl ?_
  show DL _ _ _ _ _ _ _ _ _ _ [0] _ _
  refine DL.pu 0 (.bool false) rfl (p_assign rfl rfl) ?_
  refine DL.nil ?_
  refine TT.seq (x := sub [1, 0] B16) (y := sub [1, 1] B16) ?_
  refine TT.region (id := 1) (n := 7) (ops := (opsOf (sub [1, 0] B16))) [(.quiet, none), (.pure, none), (.pure, none), (.pure, none), (.alloc, none), (.store, none), (.pure, none)] rfl ?_
  show DL _ _ _ _ _ _ _ _ _ _ [0, 1, 2, 3, 4, 5, 6] _ _
  obtain ⟨⟨t1_0_0, t1_0_1, t1_0_2, t1_0_3, t1_1⟩, h2, h3⟩ := bind_some h
  refine DL.qu 6 (.tuple #[.agg #[.int .i64 t1_0_0, .int .i64 t1_0_1, .int .i64 t1_0_2, .int .i64 t1_0_3], .int .i64 t1_1]) rfl (f_callR rfl rfl (args_val (vs := [.int .i64 1, .int .i64 1, .int .i64 36]) rfl) (fun w => enter7 _ w) (fun w hc => policy_New.val h2 (M := M) w (hE.ext hc) )) ?_
  refine DL.pu 5 (.tuple #[.agg #[.int .i64 t1_0_0, .int .i64 t1_0_1, .int .i64 t1_0_2, .int .i64 t1_0_3], .int .i64 t1_1]) rfl (p_move rfl rfl) ?_
  refine DL.pu 7 (.agg #[.int .i64 t1_0_0, .int .i64 t1_0_1, .int .i64 t1_0_2, .int .i64 t1_0_3]) rfl (p_extract rfl rfl rfl) ?_
  refine DL.pu 8 (.int .i64 t1_1) rfl (p_extract rfl rfl rfl) ?_
  refine DL.new (ob := .cells (#[.int .i64 0, .int .i64 0, .int .i64 0, .int .i64 0]) 26) (mk := fun b => ptr b 0) (i := 4) rfl (Wn.none rfl) rfl rfl rfl (f_alloc ty_z26 rfl) ?_
  intro b4 hb4
  refine DL.put (H' := [(some b4, .cells (#[.int .i64 t1_0_0, .int .i64 t1_0_1, .int .i64 t1_0_2, .int .i64 t1_0_3]) 26 (0, 0))]) (i := 5) rfl (Wn.none rfl) rfl rfl (f_storeA (j := 0) ty_s26 rfl rfl rfl (by simp [OneCell]) rfl rfl rfl) (keep_none rfl) ?_
  refine DL.pu 2 (.int .i64 t1_1) rfl (p_assign rfl rfl) ?_
  refine DL.nil ?_
  refine TT.seq (x := sub [1, 1, 0] B16) (y := sub [1, 1, 1] B16) ?_
  refine TT.region (id := 2) (n := 7) (ops := (opsOf (sub [1, 1, 0] B16))) [(.quiet, none), (.pure, none), (.pure, none), (.pure, none), (.alloc, none), (.store, none), (.pure, none)] rfl ?_
  show DL _ _ _ _ _ _ _ _ _ _ [0, 1, 2, 3, 4, 5, 6] _ _
  obtain ⟨⟨t5_0_0, t5_0_1, t5_0_2, t5_0_3, t5_1⟩, h6, h7⟩ := bind_some h3
  refine DL.qu 10 (.tuple #[.agg #[.int .i64 t5_0_0, .int .i64 t5_0_1, .int .i64 t5_0_2, .int .i64 t5_0_3], .int .i64 t5_1]) rfl (f_callR rfl rfl (args_val (vs := [.int .i64 1, .int .i64 1, .int .i64 8]) rfl) (fun w => enter7 _ w) (fun w hc => policy_New.val h6 (M := M) w (hE.ext hc) )) ?_
  refine DL.pu 9 (.tuple #[.agg #[.int .i64 t5_0_0, .int .i64 t5_0_1, .int .i64 t5_0_2, .int .i64 t5_0_3], .int .i64 t5_1]) rfl (p_move rfl rfl) ?_
  refine DL.pu 11 (.agg #[.int .i64 t5_0_0, .int .i64 t5_0_1, .int .i64 t5_0_2, .int .i64 t5_0_3]) rfl (p_extract rfl rfl rfl) ?_
  refine DL.pu 12 (.int .i64 t5_1) rfl (p_extract rfl rfl rfl) ?_
  refine DL.new (ob := .cells (#[.int .i64 0, .int .i64 0, .int .i64 0, .int .i64 0]) 26) (mk := fun b => ptr b 0) (i := 4) rfl (Wn.none rfl) rfl rfl rfl (f_alloc ty_z26 rfl) ?_
  intro b8 hb8
  refine DL.put (H' := [(some b8, .cells (#[.int .i64 t5_0_0, .int .i64 t5_0_1, .int .i64 t5_0_2, .int .i64 t5_0_3]) 26 (0, 0)), (some b4, .cells (#[.int .i64 t1_0_0, .int .i64 t1_0_1, .int .i64 t1_0_2, .int .i64 t1_0_3]) 26 (0, 0))]) (i := 5) rfl (Wn.none rfl) rfl rfl (f_storeA (j := 0) ty_s26 rfl rfl rfl (by simp [OneCell]) rfl rfl rfl) (keep_none rfl) ?_
  refine DL.pu 4 (.int .i64 t5_1) rfl (p_assign rfl rfl) ?_
  refine DL.nil ?_
  refine TT.seq (x := sub [1, 1, 1, 0] B16) (y := sub [1, 1, 1, 1] B16) ?_
  refine TT.region (id := 3) (n := 18) (ops := (opsOf (sub [1, 1, 1, 0] B16))) [(.pure, none), (.quiet, none), (.pure, none), (.pure, none), (.quiet, none), (.pure, none), (.pure, none), (.pure, none), (.pure, none), (.quiet, none), (.quiet, none), (.pure, none), (.pure, none), (.pure, none), (.quiet, none), (.pure, none), (.pure, none), (.pure, none)] rfl ?_
  show DL _ _ _ _ _ _ _ _ _ _ [0, 1, 2, 3, 4, 5, 6, 7, 8, 9, 10, 11, 12, 13, 14, 15, 16, 17] _ _
  refine DL.pu 13 (.int .i64 t1_1) rfl (p_move rfl rfl) ?_
  obtain ⟨t9, h10, h11⟩ := bind_some h7
  refine DL.qu 14 (.int .i64 t9) rfl (f_callR rfl rfl (args_val (vs := [.int .i64 t1_1]) rfl) (fun w => enter15 _ w) (fun w hc => law21_num.val h10 (M := M) w (hE.ext hc) )) ?_
  refine DL.pu 15 (.bool (t9 == 0)) rfl (p_eql rfl rfl rfl) ?_
  refine DL.pu 16 (.bool (t9 == 0)) rfl (p_move rfl rfl) ?_
  obtain ⟨q13, h14, h15⟩ := bind_some h11
  refine DL.cut [(1, ptr b4 0), (4, .int .i64 t5_1), (20, .bool q13)] [8, 9, 10, 11, 12, 13, 14, 15, 16, 17] ?_ (fun J16 => ?_)
  · refine DL.pu 21 (.bool q13) rfl (p_move rfl rfl) ?_
    obtain ⟨q24, h25, h26⟩ := bind_some h15
    refine DL.cut [(4, .int .i64 t5_1), (24, .bool q24)] [12, 13, 14, 15, 16, 17] ?_ (fun J27 => ?_)
    · refine DL.pu 25 (.bool q24) rfl (p_move rfl rfl) ?_
      obtain ⟨q35, h36, h37⟩ := bind_some h26
      refine DL.cut [(29, .bool q35)] [17] ?_ (fun J38 => ?_)
      · refine DL.pu 0 (.bool q35) rfl (p_assign rfl rfl) ?_
        refine DL.nil ?_
        obtain rfl := Option.some.inj h37
        exact retnE (rs := [.tmp 0]) (vs := [.bool q35]) hE.base Try.func16 rfl rfl rfl (res_cons (ResV.tmp rfl) res_nil) rfl
      · by_cases c39 : q24 = true
        · have h40 := ite_true c39 h36
          refine DL.pure (v := .int .i64 t5_1) rfl (Wn.yes c39 rfl rfl rfl rfl) rfl rfl rfl (p_move rfl rfl) ?_
          obtain ⟨t41, h42, h43⟩ := bind_some h40
          refine DL.quiet (v := .int .i64 t41) rfl (Wn.yes c39 rfl rfl rfl rfl) rfl rfl rfl (f_callR rfl rfl (args_val (vs := [.int .i64 t5_1]) rfl) (fun w => enter15 _ w) (fun w hc => law21_num.val h42 (M := M) w (hE.ext hc) )) ?_
          refine DL.pure (v := .bool (t41 == 12)) rfl (Wn.yes c39 rfl rfl rfl rfl) rfl rfl rfl (p_eql rfl rfl rfl) ?_
          refine DL.pu 29 (.bool (t41 == 12)) rfl (p_pick_t c39 rfl rfl rfl) ?_
          obtain rfl := Option.some.inj h43
          exact DL.weak J38 (Sub.cons rfl (Sub.nil _))
        · replace c39 := Bool.eq_false_iff.mpr c39
          have h44 := ite_false c39 h36
          refine DL.not (i := 13) rfl (Wn.no c39 rfl rfl rfl rfl) rfl rfl ?_
          refine DL.not (i := 14) rfl (Wn.no c39 rfl rfl rfl rfl) rfl rfl ?_
          refine DL.not (i := 15) rfl (Wn.no c39 rfl rfl rfl rfl) rfl rfl ?_
          refine DL.pu 29 (.bool false) rfl (p_pick_f c39 rfl rfl rfl) ?_
          obtain rfl := Option.some.inj h44
          exact DL.weak J38 (Sub.cons rfl (Sub.nil _))
    · by_cases c28 : q13 = true
      · have h29 := ite_true c28 h25
        refine DL.quiet (v := .agg #[.int .i64 t1_0_0, .int .i64 t1_0_1, .int .i64 t1_0_2, .int .i64 t1_0_3]) rfl (Wn.yes c28 rfl rfl rfl rfl) rfl rfl rfl (f_loadA (j := 1) ty_a26 ty_s26 rfl rfl rfl rfl) ?_
        obtain ⟨t30, h31, h32⟩ := bind_some h29
        refine DL.quiet (v := .bool t30) rfl (Wn.yes c28 rfl rfl rfl rfl) rfl rfl rfl (f_callR rfl rfl (args_val (vs := [.agg #[.int .i64 t1_0_0, .int .i64 t1_0_1, .int .i64 t1_0_2, .int .i64 t1_0_3]]) rfl) (fun w => enter21 _ w) (fun w hc => policy_Kept.val h31 (M := M) w (hE.ext hc) )) ?_
        refine DL.pu 24 (.bool t30) rfl (p_pick_t c28 rfl rfl rfl) ?_
        obtain rfl := Option.some.inj h32
        exact DL.weak J27 (Sub.cons rfl (Sub.cons rfl (Sub.nil _)))
      · replace c28 := Bool.eq_false_iff.mpr c28
        have h33 := ite_false c28 h25
        refine DL.not (i := 9) rfl (Wn.no c28 rfl rfl rfl rfl) rfl rfl ?_
        refine DL.not (i := 10) rfl (Wn.no c28 rfl rfl rfl rfl) rfl rfl ?_
        refine DL.pu 24 (.bool false) rfl (p_pick_f c28 rfl rfl rfl) ?_
        obtain rfl := Option.some.inj h33
        exact DL.weak J27 (Sub.cons rfl (Sub.cons rfl (Sub.nil _)))
  · by_cases c17 : (t9 == 0) = true
    · have h18 := ite_true c17 h14
      refine DL.quiet (v := .agg #[.int .i64 t1_0_0, .int .i64 t1_0_1, .int .i64 t1_0_2, .int .i64 t1_0_3]) rfl (Wn.yes c17 rfl rfl rfl rfl) rfl rfl rfl (f_loadA (j := 1) ty_a26 ty_s26 rfl rfl rfl rfl) ?_
      refine DL.pure (v := .agg #[.int .i64 1, .int .i64 1, .int .i64 36, .int .i64 36]) rfl (Wn.yes c17 rfl rfl rfl rfl) rfl rfl rfl (p_build (vs := [(0, .int .i64 1), (1, .int .i64 1), (2, .int .i64 36), (3, .int .i64 36)]) (fun w => by kernel_rfl) rfl rfl) ?_
      obtain ⟨t19, e20, h21⟩ := nm_some h18
      refine DL.pure (v := .bool t19) rfl (Wn.yes c17 rfl rfl rfl rfl) rfl rfl rfl (by rw [e20]; exact p_eqAgg ty_g26 (fun w => eqs26 (d := 9998) t1_0_0 t1_0_1 t1_0_2 t1_0_3 1 1 36 36 w) rfl rfl rfl) ?_
      refine DL.pu 20 (.bool t19) rfl (p_pick_t c17 rfl rfl rfl) ?_
      obtain rfl := Option.some.inj h21
      exact DL.weak J16 (Sub.cons rfl (Sub.cons rfl (Sub.cons rfl (Sub.nil _))))
    · replace c17 := Bool.eq_false_iff.mpr c17
      have h22 := ite_false c17 h14
      refine DL.not (i := 4) rfl (Wn.no c17 rfl rfl rfl rfl) rfl rfl ?_
      refine DL.not (i := 5) rfl (Wn.no c17 rfl rfl rfl rfl) rfl rfl ?_
      refine DL.not (i := 6) rfl (Wn.no c17 rfl rfl rfl rfl) rfl rfl ?_
      refine DL.pu 20 (.bool false) rfl (p_pick_f c17 rfl rfl rfl) ?_
      obtain rfl := Option.some.inj h22
      exact DL.weak J16 (Sub.cons rfl (Sub.cons rfl (Sub.cons rfl (Sub.nil _))))
theorem law21_known.val {r : Bool} (h : law21_known.f = some r) {M : Mem} (w : World) (hM : Ext M (heapOf w)) : Calls Try.prog 16 #[] w fun e w' => e = .returned (.bool r) ∧ Below w.heap.size w w' :=
  calls_value (law21_known.ok h w hM)

/-! ### escutcheon/policy.Text: function 27 -/
noncomputable def B27 : Code := bodyOf Try.f27
def policy_Text.L0 (a0 : Int) : Nat → (List (List UInt8)) → Int → Option (List (List UInt8))
  | 0, _, _ => none
  | k + 1, y_13, x11_14 => if (decide (x11_14 < 6)) = true then (req (0 ≤ x11_14) ((if ((iand .i64 (ishr .i64 a0 x11_14) 1) == 1) = true then (req (x11_14 < (([[101, 120, 112, 111, 114, 116], [119, 114, 97, 112, 112, 101, 100], [115, 105, 103, 110], [119, 114, 97, 112], [100, 101, 114, 105, 118, 101], [97, 116, 116, 101, 115, 116]] : List (List UInt8)).length : Int)) (req (y_13.length + ([([[101, 120, 112, 111, 114, 116], [119, 114, 97, 112, 112, 101, 100], [115, 105, 103, 110], [119, 114, 97, 112], [100, 101, 114, 105, 118, 101], [97, 116, 116, 101, 115, 116]] : List (List UInt8)).getD x11_14.toNat []] : List (List UInt8)).length ≤ 1099511627776) (some (y_13 ++ ([([[101, 120, 112, 111, 114, 116], [119, 114, 97, 112, 112, 101, 100], [115, 105, 103, 110], [119, 114, 97, 112], [100, 101, 114, 105, 118, 101], [97, 116, 116, 101, 115, 116]] : List (List UInt8)).getD x11_14.toNat []] : List (List UInt8)))))) else (some y_13)).bind fun j_o12_93 => policy_Text.L0 a0 k j_o12_93 (IntKind.i64.wrap (x11_14 + 1)))) else (some y_13)
set_option maxRecDepth 20000 in
theorem policy_Text.L0_ok (a0 : Int) {R : Ending → World → Prop} {w0 : World} {M0 M I : Mem} {K : List Item} (hE : Env w0 M0 M I) :
    ∀ (k : Nat) (y_13 : List (List UInt8)) (x11_14 : Int) (y_13_v : Value) (y_13_c : Array Value) (r0_ : List (List UInt8)) (ho_y_13 : OwnS Sh.str M y_13_v y_13_c y_13) (h : policy_Text.L0 a0 k y_13 x11_14 = some r0_) (hk : ∀ (z_o12_87_v : Value), ∀ (z_o12_87_c : Array Value), OwnS Sh.str M z_o12_87_v z_o12_87_c r0_ → TT Try.prog 27 R 29 w0 I K [(3, z_o12_87_v)] [(Value.ownBlock z_o12_87_v, .cells z_o12_87_c 9 (0, 0))]),
      TT Try.prog 27 R 29 w0 I (.code (sub [1, 1, 1, 0, 1, 0, 0] B27) :: .inLoop (sub [1, 1, 1, 0, 1, 0, 0] B27) :: .inBlock 0 :: K) [(0, .int .i64 a0), (3, y_13_v), (11, .int .i64 x11_14)] [(Value.ownBlock y_13_v, .cells y_13_c 9 (0, 0))] := by
  intro k
  induction k with
  | zero => intro y_13 x11_14 y_13_v y_13_c r0_ ho_y_13 h; simp [policy_Text.L0] at h
  | succ k ih =>
    intro y_13 x11_14 y_13_v y_13_c r0_ ho_y_13 h hk
    unfold policy_Text.L0 at h
    refine TT.seq (x := sub [1, 1, 1, 0, 1, 0, 0, 0] B27) (y := sub [1, 1, 1, 0, 1, 0, 0, 1] B27) ?_
    refine TT.region (id := 5) (n := 1) (ops := (opsOf (sub [1, 1, 1, 0, 1, 0, 0, 0] B27))) [(.pure, none)] rfl ?_
    show DL _ _ _ _ _ _ _ _ _ _ [0] _ _
    refine DL.pu 12 (.bool (decide (x11_14 < 6))) rfl (p_lss rfl rfl rfl) ?_
    refine DL.nil ?_
    refine TT.seq (x := sub [1, 1, 1, 0, 1, 0, 0, 1, 0] B27) (y := sub [1, 1, 1, 0, 1, 0, 0, 1, 1] B27) ?_
    by_cases c88 : (decide (x11_14 < 6)) = true
    · have h89 := ite_true c88 h
      refine TT.cond_true (x := sub [1, 1, 1, 0, 1, 0, 0, 1, 0, 0] B27) (y := sub [1, 1, 1, 0, 1, 0, 0, 1, 0, 1] B27) rfl c88 ?_
      refine TT.skip ?_
      refine TT.seq (x := sub [1, 1, 1, 0, 1, 0, 0, 1, 1, 0] B27) (y := sub [1, 1, 1, 0, 1, 0, 0, 1, 1, 1] B27) ?_
      refine TT.block (c := sub [1, 1, 1, 0, 1, 0, 0, 1, 1, 0, 0] B27) ?_
      refine TT.seq (x := sub [1, 1, 1, 0, 1, 0, 0, 1, 1, 0, 0, 0] B27) (y := sub [1, 1, 1, 0, 1, 0, 0, 1, 1, 0, 0, 1] B27) ?_
      refine TT.region (id := 6) (n := 2) (ops := (opsOf (sub [1, 1, 1, 0, 1, 0, 0, 1, 1, 0, 0, 0] B27))) [(.pure, none), (.pure, none)] rfl ?_
      show DL _ _ _ _ _ _ _ _ _ _ [0, 1] _ _
      refine DL.pu 13 (.int .i64 x11_14) rfl (p_move rfl rfl) ?_
      refine DL.pu 4 (.int .i64 x11_14) rfl (p_assign rfl rfl) ?_
      refine DL.nil ?_
      refine TT.seq (x := sub [1, 1, 1, 0, 1, 0, 0, 1, 1, 0, 0, 1, 0] B27) (y := sub [1, 1, 1, 0, 1, 0, 0, 1, 1, 0, 0, 1, 1] B27) ?_
      refine TT.region (id := 7) (n := 5) (ops := (opsOf (sub [1, 1, 1, 0, 1, 0, 0, 1, 1, 0, 0, 1, 0] B27))) [(.pure, none), (.pure, none), (.pure, none), (.pure, none), (.pure, none)] rfl ?_
      show DL _ _ _ _ _ _ _ _ _ _ [0, 1, 2, 3, 4] _ _
      refine DL.pu 14 (.int .i64 a0) rfl (p_move rfl rfl) ?_
      refine DL.pu 15 (.int .i64 x11_14) rfl (p_move rfl rfl) ?_
      obtain ⟨g90, h91⟩ := req_some h89
      refine DL.pu 16 (.int .i64 (ishr .i64 a0 x11_14)) rfl (p_shr g90 rfl rfl rfl) ?_
      refine DL.pu 17 (.int .i64 (iand .i64 (ishr .i64 a0 x11_14) 1)) rfl (p_and rfl rfl rfl) ?_
      refine DL.pu 18 (.bool ((iand .i64 (ishr .i64 a0 x11_14) 1) == 1)) rfl (p_eql rfl rfl rfl) ?_
      refine DL.nil ?_
      obtain ⟨j_o12_93, h94, h95⟩ := bind_some h91
      have J96 : ∀ (j_o12_93_v : Value), ∀ (j_o12_93_c : Array Value), OwnS Sh.str M j_o12_93_v j_o12_93_c j_o12_93 → TT Try.prog 27 R 29 w0 I (.inBlock 1 :: .code (sub [1, 1, 1, 0, 1, 0, 0, 1, 1, 1] B27) :: .inLoop (sub [1, 1, 1, 0, 1, 0, 0] B27) :: .inBlock 0 :: K) [(0, .int .i64 a0), (3, j_o12_93_v), (11, .int .i64 x11_14)] [(Value.ownBlock j_o12_93_v, .cells j_o12_93_c 9 (0, 0))] := by
        intro j_o12_93_v j_o12_93_c ho_j_o12_93
        refine TT.inBlock ?_
        refine TT.region (id := 9) (n := 2) (ops := (opsOf (sub [1, 1, 1, 0, 1, 0, 0, 1, 1, 1] B27))) [(.pure, none), (.pure, none)] rfl ?_
        show DL _ _ _ _ _ _ _ _ _ _ [0, 1] _ _
        refine DL.pu 26 (.int .i64 (IntKind.i64.wrap (x11_14 + 1))) rfl (p_add rfl rfl rfl) ?_
        refine DL.pu 11 (.int .i64 (IntKind.i64.wrap (x11_14 + 1))) rfl (p_move rfl rfl) ?_
        refine DL.nil ?_
        refine TT.inLoop ?_
        exact TT.weak (ih j_o12_93 (IntKind.i64.wrap (x11_14 + 1)) j_o12_93_v j_o12_93_c r0_ ho_j_o12_93 h95 hk) (Sub.cons rfl (Sub.cons rfl (Sub.cons rfl (Sub.nil _))))
      by_cases c92 : ((iand .i64 (ishr .i64 a0 x11_14) 1) == 1) = true
      · have h98 := ite_true c92 h94
        refine TT.cond_true (x := sub [1, 1, 1, 0, 1, 0, 0, 1, 1, 0, 0, 1, 1, 0] B27) (y := sub [1, 1, 1, 0, 1, 0, 0, 1, 1, 0, 0, 1, 1, 1] B27) rfl c92 ?_
        refine TT.region (id := 8) (n := 8) (ops := (opsOf (sub [1, 1, 1, 0, 1, 0, 0, 1, 1, 0, 0, 1, 1, 0] B27))) [(.pure, none), (.alloc, none), (.pure, none), (.pure, none), (.quiet, none), (.alloc, none), (.actx, none), (.pure, none)] rfl ?_
        show DL _ _ _ _ _ _ _ _ _ _ [0, 1, 2, 3, 4, 5, 6, 7] _ _
        refine DL.pu 19 (y_13_v) rfl (p_move rfl rfl) ?_
        refine DL.newS (M := M) (s := Sh.str) (zs := ([[101, 120, 112, 111, 114, 116], [119, 114, 97, 112, 112, 101, 100], [115, 105, 103, 110], [119, 114, 97, 112], [100, 101, 114, 105, 118, 101], [97, 116, 116, 101, 115, 116]] : List (List UInt8))) (cells := [str [101, 120, 112, 111, 114, 116], str [119, 114, 97, 112, 112, 101, 100], str [115, 105, 103, 110], str [119, 114, 97, 112], str [100, 101, 114, 105, 118, 101], str [97, 116, 116, 101, 115, 116]]) (n := 6) rfl (by decide) rfl (fun i x hx => by match i, hx with | 0, hx => cases hx; exact rfl | 1, hx => cases hx; exact rfl | 2, hx => cases hx; exact rfl | 3, hx => cases hx; exact rfl | 4, hx => cases hx; exact rfl | 5, hx => cases hx; exact rfl | k + 6, hx => simp at hx) (i := 1) rfl (Wn.none rfl) rfl rfl rfl (f_buildS (n := 6) (vs := [(0, str [101, 120, 112, 111, 114, 116]), (1, str [119, 114, 97, 112, 112, 101, 100]), (2, str [115, 105, 103, 110]), (3, str [119, 114, 97, 112]), (4, str [100, 101, 114, 105, 118, 101]), (5, str [97, 116, 116, 101, 115, 116])]) elem59 rfl rfl (by kernel_rfl) rfl (args_val2 rfl)) ?_
        intro s100_v s100_c ho_s100
        refine DL.pu 21 (.int .i64 x11_14) rfl (p_move rfl rfl) ?_
        obtain ⟨g101, h102⟩ := req_some h98
        refine DL.pu 22 (elp s100_v x11_14.toNat) rfl (p_slIx1 ty_u59 ty_s9 (OwnS.some ho_s100 g90 g101) g90 g101 rfl rfl rfl) ?_
        refine DL.qu 23 (str (([[101, 120, 112, 111, 114, 116], [119, 114, 97, 112, 112, 101, 100], [115, 105, 103, 110], [119, 114, 97, 112], [100, 101, 114, 105, 118, 101], [97, 116, 116, 101, 115, 116]] : List (List UInt8)).getD x11_14.toNat [])) rfl (f_loadEl (i := 0) rfl (OwnS.strs ho_s100) (strs_get (lt_len g90 g101)) ty_a9 rfl rfl) ?_
        refine DL.newS (M := M) (s := Sh.str) (zs := ([([[101, 120, 112, 111, 114, 116], [119, 114, 97, 112, 112, 101, 100], [115, 105, 103, 110], [119, 114, 97, 112], [100, 101, 114, 105, 118, 101], [97, 116, 116, 101, 115, 116]] : List (List UInt8)).getD x11_14.toNat []] : List (List UInt8))) (cells := [str (([[101, 120, 112, 111, 114, 116], [119, 114, 97, 112, 112, 101, 100], [115, 105, 103, 110], [119, 114, 97, 112], [100, 101, 114, 105, 118, 101], [97, 116, 116, 101, 115, 116]] : List (List UInt8)).getD x11_14.toNat [])]) (n := 1) rfl (by decide) rfl (fun i x hx => by match i, hx with | 0, hx => cases hx; exact rfl | k + 1, hx => simp at hx) (i := 5) rfl (Wn.none rfl) rfl rfl rfl (f_buildS (n := 1) (vs := [(0, str (([[101, 120, 112, 111, 114, 116], [119, 114, 97, 112, 112, 101, 100], [115, 105, 103, 110], [119, 114, 97, 112], [100, 101, 114, 105, 118, 101], [97, 116, 116, 101, 115, 116]] : List (List UInt8)).getD x11_14.toNat []))]) elem59 rfl rfl (by kernel_rfl) rfl (args_val2 rfl)) ?_
        intro s104_v s104_c ho_s104
        obtain ⟨g105, h106⟩ := req_some h102
        refine DL.appendS (M := M) (s := Sh.str) (fun s107_v s107_c => [(Value.ownBlock s104_v, .cells s104_c 9 (0, 0)), (Value.ownBlock s100_v, .cells s100_c 9 (0, 0)), (Value.ownBlock s107_v, .cells s107_c 9 (0, 0))]) elem59 (j := 2) rfl ho_y_13 g105 (by decide) (OwnS.src (i := 0) ho_s104 rfl) (i := 6) rfl (Wn.none rfl) rfl rfl rfl rfl rfl rfl (fun _ _ => rfl) ?_
        intro s107_v s107_c ho_s107
        show DL _ _ _ _ _ _ _ _ _ _ _ _ [(Value.ownBlock s104_v, .cells s104_c 9 (0, 0)), (Value.ownBlock s100_v, .cells s100_c 9 (0, 0)), (Value.ownBlock s107_v, .cells s107_c 9 (0, 0))]
        refine DL.pu 3 (s107_v) rfl (p_assign rfl rfl) ?_
        refine DL.nil ?_
        obtain rfl := Option.some.inj h106
        exact TT.pick [2] (by decide) (TT.weak (J96 s107_v s107_c ho_s107) (Sub.cons rfl (Sub.cons rfl (Sub.cons rfl (Sub.nil _)))))
      · replace c92 := Bool.eq_false_iff.mpr c92
        have h108 := ite_false c92 h94
        refine TT.cond_false (x := sub [1, 1, 1, 0, 1, 0, 0, 1, 1, 0, 0, 1, 1, 0] B27) (y := sub [1, 1, 1, 0, 1, 0, 0, 1, 1, 0, 0, 1, 1, 1] B27) rfl c92 ?_
        refine TT.skip ?_
        obtain rfl := Option.some.inj h108
        exact TT.weak (J96 y_13_v y_13_c ho_y_13) (Sub.cons rfl (Sub.cons rfl (Sub.cons rfl (Sub.nil _))))
    · replace c88 := Bool.eq_false_iff.mpr c88
      have h109 := ite_false c88 h
      refine TT.cond_false (x := sub [1, 1, 1, 0, 1, 0, 0, 1, 0, 0] B27) (y := sub [1, 1, 1, 0, 1, 0, 0, 1, 0, 1] B27) rfl c88 ?_
      refine TT.exit rfl ?_
      obtain rfl := Option.some.inj h109
      exact TT.weak (hk y_13_v y_13_c ho_y_13) (Sub.cons rfl (Sub.nil _))

def policy_Text.f (a0 : Int) : Option ((List UInt8)) := (if (decide (a0 ≤ 0)) = true then (some true) else (some (decide (63 < a0)))).bind fun q2 => if q2 = true then (some [45]) else ((policy_Text.L0 a0 7 ([] : List (List UInt8)) 0).bind fun z_o12_87 => req (z_o12_87.length ≤ 140737488355328) (req ((joinL z_o12_87 [43]).length ≤ 140737488355328) (nm (joinL z_o12_87 [43]) fun t117 => some t117)))
set_option maxRecDepth 20000 in
theorem policy_Text.ok {a0 : Int} {r : List UInt8} (h : policy_Text.f a0 = some r) {M : Mem} (w : World) (hM : Ext M (heapOf w)) : Calls Try.prog 27 #[.int .i64 a0] w (Post (fun u => u = str r) w) := by
  unfold policy_Text.f at h
  have hE := Env.start hM
  refine calls_of_TT (N := 29) (S := [(0, .int .i64 a0)]) (c := B27) Try.func27 rfl rfl rfl (by simp) ?_
  show TT _ _ _ _ _ _ [.code (sub [] B27)] _ _
  refine TT.seq (x := sub [0] B27) (y := sub [1] B27) ?_
  refine TT.region (id := 0) (n := 1) (ops := (opsOf (sub [0] B27))) [(.pure, none)] rfl ?_
  show DL _ _ _ _ _ _ _ _ _ _ [0] _ _
  refine DL.pu 2 (str ([] : List UInt8)) rfl (p_assign rfl rfl) ?_
  refine DL.nil ?_
  refine TT.seq (x := sub [1, 0] B27) (y := sub [1, 1] B27) ?_
  refine TT.seq (x := sub [1, 0, 0] B27) (y := sub [1, 0, 1] B27) ?_
  refine TT.region (id := 1) (n := 6) (ops := (opsOf (sub [1, 0, 0] B27))) [(.pure, none), (.pure, none), (.pure, none), (.pure, none), (.pure, none), (.pure, none)] rfl ?_
  show DL _ _ _ _ _ _ _ _ _ _ [0, 1, 2, 3, 4, 5] _ _
  refine DL.pu 5 (.int .i64 a0) rfl (p_move rfl rfl) ?_
  refine DL.pu 6 (.bool (decide (a0 ≤ 0))) rfl (p_leq rfl rfl rfl) ?_
  refine DL.pu 7 (.bool (decide (a0 ≤ 0))) rfl (p_move rfl rfl) ?_
  obtain ⟨q2, h3, h4⟩ := bind_some h
  refine DL.cut [(0, .int .i64 a0), (10, .bool q2)] [] ?_ (fun J5 => ?_)
  · refine DL.nil ?_
    by_cases c9 : q2 = true
    · have h10 := ite_true c9 h4
      refine TT.cond_true (x := sub [1, 0, 1, 0] B27) (y := sub [1, 0, 1, 1] B27) rfl c9 ?_
      refine TT.seq (x := sub [1, 0, 1, 0, 0] B27) (y := sub [1, 0, 1, 0, 1] B27) ?_
      refine TT.region (id := 2) (n := 1) (ops := (opsOf (sub [1, 0, 1, 0, 0] B27))) [(.pure, none)] rfl ?_
      show DL _ _ _ _ _ _ _ _ _ _ [0] _ _
      refine DL.pu 2 (str [45]) rfl (p_assign rfl rfl) ?_
      refine DL.nil ?_
      obtain rfl := Option.some.inj h10
      exact retnE (rs := [.tmp 2]) (vs := [str [45]]) hE.base Try.func27 rfl rfl rfl (res_cons (ResV.tmp rfl) res_nil) rfl
    · replace c9 := Bool.eq_false_iff.mpr c9
      have h11 := ite_false c9 h4
      refine TT.cond_false (x := sub [1, 0, 1, 0] B27) (y := sub [1, 0, 1, 1] B27) rfl c9 ?_
      refine TT.skip ?_
      refine TT.seq (x := sub [1, 1, 0] B27) (y := sub [1, 1, 1] B27) ?_
      refine TT.region (id := 3) (n := 1) (ops := (opsOf (sub [1, 1, 0] B27))) [(.pure, none)] rfl ?_
      show DL _ _ _ _ _ _ _ _ _ _ [0] _ _
      refine DL.pu 3 (.slice none 0 0) rfl (p_assign rfl rfl) ?_
      refine DL.nil ?_
      refine TT.seq (x := sub [1, 1, 1, 0] B27) (y := sub [1, 1, 1, 1] B27) ?_
      refine TT.seq (x := sub [1, 1, 1, 0, 0] B27) (y := sub [1, 1, 1, 0, 1] B27) ?_
      refine TT.region (id := 4) (n := 1) (ops := (opsOf (sub [1, 1, 1, 0, 0] B27))) [(.pure, none)] rfl ?_
      show DL _ _ _ _ _ _ _ _ _ _ [0] _ _
      refine DL.pu 11 (.int .i64 0) rfl (p_move rfl rfl) ?_
      refine DL.nil ?_
      refine TT.block (c := sub [1, 1, 1, 0, 1, 0] B27) ?_
      refine TT.nilOwn (e := 9) ?_
      refine TT.loop (c := sub [1, 1, 1, 0, 1, 0, 0] B27) ?_
      obtain ⟨z_o12_87, h110, h111⟩ := bind_some h11
      refine TT.weak (policy_Text.L0_ok a0 hE 7 ([] : List (List UInt8)) 0 (.slice none 0 0) (#[]) z_o12_87 (OwnS.nil Sh.str M) h110 (fun z_o12_87_v z_o12_87_c ho_z_o12_87 => ?_)) (Sub.cons rfl (Sub.cons rfl (Sub.cons rfl (Sub.nil _))))
      refine TT.seq (x := sub [1, 1, 1, 1, 0] B27) (y := sub [1, 1, 1, 1, 1] B27) ?_
      refine TT.region (id := 10) (n := 3) (ops := (opsOf (sub [1, 1, 1, 1, 0] B27))) [(.pure, none), (.quiet, none), (.pure, none)] rfl ?_
      show DL _ _ _ _ _ _ _ _ _ _ [0, 1, 2] _ _
      refine DL.pu 27 (z_o12_87_v) rfl (p_move rfl rfl) ?_
      obtain ⟨g113, h114⟩ := req_some h111
      obtain ⟨g115, h116⟩ := req_some h114
      obtain ⟨t117, e118, h119⟩ := nm_some h116
      refine DL.qu 28 (str t117) rfl (by rw [e118]; exact f_callR rfl rfl (args_val (vs := [z_o12_87_v, str [43]]) rfl) (fun w => enter37 _ w) (fun w hc => join_ok (i := 0) _ ho_z_o12_87 hc rfl g113 g115)) ?_
      refine DL.pu 2 (str t117) rfl (p_assign rfl rfl) ?_
      refine DL.nil ?_
      obtain rfl := Option.some.inj h119
      exact retnE (rs := [.tmp 2]) (vs := [str t117]) hE.base Try.func27 rfl rfl rfl (res_cons (ResV.tmp rfl) res_nil) rfl
  · by_cases c6 : (decide (a0 ≤ 0)) = true
    · have h7 := ite_true c6 h3
      refine DL.not (i := 3) rfl (Wn.yes c6 rfl rfl rfl rfl) rfl rfl ?_
      refine DL.not (i := 4) rfl (Wn.yes c6 rfl rfl rfl rfl) rfl rfl ?_
      refine DL.pu 10 (.bool true) rfl (p_pick_t c6 rfl rfl rfl) ?_
      obtain rfl := Option.some.inj h7
      exact DL.weak J5 (Sub.cons rfl (Sub.cons rfl (Sub.nil _)))
    · replace c6 := Bool.eq_false_iff.mpr c6
      have h8 := ite_false c6 h3
      refine DL.pure (v := .int .i64 a0) rfl (Wn.no c6 rfl rfl rfl rfl) rfl rfl rfl (p_move rfl rfl) ?_
      refine DL.pure (v := .bool (decide (63 < a0))) rfl (Wn.no c6 rfl rfl rfl rfl) rfl rfl rfl (p_gtr rfl rfl rfl) ?_
      refine DL.pu 10 (.bool (decide (63 < a0))) rfl (p_pick_f c6 rfl rfl rfl) ?_
      obtain rfl := Option.some.inj h8
      exact DL.weak J5 (Sub.cons rfl (Sub.cons rfl (Sub.nil _)))
theorem policy_Text.val {a0 : Int} {r : List UInt8} (h : policy_Text.f a0 = some r) {M : Mem} (w : World) (hM : Ext M (heapOf w)) : Calls Try.prog 27 #[.int .i64 a0] w fun e w' => e = .returned (str r) ∧ Below w.heap.size w w' :=
  calls_value (policy_Text.ok h w hM)

/-! ### escutcheon/escutcheonref21.Text: function 28 -/
noncomputable def B28 : Code := bodyOf Try.f28
def ref21_Text.L0 (a0 : Int) : Nat → (List UInt8) → Int → Option (List UInt8)
  | 0, _, _ => none
  | k + 1, x4_14, x5_15 => nm (decide (x5_15 < (([[101, 120, 112, 111, 114, 116], [119, 114, 97, 112, 112, 101, 100], [115, 105, 103, 110], [119, 114, 97, 112], [100, 101, 114, 105, 118, 101], [97, 116, 116, 101, 115, 116]] : List (List UInt8)).length : Int))) fun t100 => if t100 = true then (req (0 ≤ (IntKind.u64.wrap x5_15)) ((ref21_Has.f a0 (ishl .i64 1 (IntKind.u64.wrap x5_15))).bind fun t107 => if (!t107) = true then (ref21_Text.L0 a0 k x4_14 (IntKind.i64.wrap (x5_15 + 1))) else ((if (!(x4_14 == ([] : List UInt8))) = true then (req (x4_14.length + [43].length ≤ 1099511627776) (some (x4_14 ++ [43]))) else (some x4_14)).bind fun j4_114 => req (0 ≤ x5_15) (req (x5_15 < (([[101, 120, 112, 111, 114, 116], [119, 114, 97, 112, 112, 101, 100], [115, 105, 103, 110], [119, 114, 97, 112], [100, 101, 114, 105, 118, 101], [97, 116, 116, 101, 115, 116]] : List (List UInt8)).length : Int)) (req (j4_114.length + (([[101, 120, 112, 111, 114, 116], [119, 114, 97, 112, 112, 101, 100], [115, 105, 103, 110], [119, 114, 97, 112], [100, 101, 114, 105, 118, 101], [97, 116, 116, 101, 115, 116]] : List (List UInt8)).getD x5_15.toNat []).length ≤ 1099511627776) (nm (j4_114 ++ (([[101, 120, 112, 111, 114, 116], [119, 114, 97, 112, 112, 101, 100], [115, 105, 103, 110], [119, 114, 97, 112], [100, 101, 114, 105, 118, 101], [97, 116, 116, 101, 115, 116]] : List (List UInt8)).getD x5_15.toNat [])) fun t129 => ref21_Text.L0 a0 k t129 (IntKind.i64.wrap (x5_15 + 1)))))))) else (some x4_14)
set_option maxRecDepth 20000 in
theorem ref21_Text.L0_ok (a0 : Int) (s2_v : Value) (s2_c : Array Value) {R : Ending → World → Prop} {w0 : World} {M0 M I : Mem} {K : List Item} (hE : Env w0 M0 M I) (ho_s2 : OwnS Sh.str M s2_v s2_c ([[101, 120, 112, 111, 114, 116], [119, 114, 97, 112, 112, 101, 100], [115, 105, 103, 110], [119, 114, 97, 112], [100, 101, 114, 105, 118, 101], [97, 116, 116, 101, 115, 116]] : List (List UInt8))) :
    ∀ (k : Nat) (x4_14 : List UInt8) (x5_15 : Int) (r0_ : List UInt8) (h : ref21_Text.L0 a0 k x4_14 x5_15 = some r0_) (hk : TT Try.prog 28 R 38 w0 I K [(4, str r0_)] [(Value.ownBlock s2_v, .cells s2_c 9 (0, 0))]),
      TT Try.prog 28 R 38 w0 I (.code (sub [1, 1, 1, 1, 0, 1, 0, 0] B28) :: .inLoop (sub [1, 1, 1, 1, 0, 1, 0, 0] B28) :: .inBlock 0 :: K) [(0, .int .i64 a0), (3, s2_v), (4, str x4_14), (5, .int .i64 x5_15)] [(Value.ownBlock s2_v, .cells s2_c 9 (0, 0))] := by
  intro k
  induction k with
  | zero => intro x4_14 x5_15 r0_ h; simp [ref21_Text.L0] at h
  | succ k ih =>
    intro x4_14 x5_15 r0_ h hk
    unfold ref21_Text.L0 at h
    refine TT.seq (x := sub [1, 1, 1, 1, 0, 1, 0, 0, 0] B28) (y := sub [1, 1, 1, 1, 0, 1, 0, 0, 1] B28) ?_
    refine TT.seq (x := sub [1, 1, 1, 1, 0, 1, 0, 0, 0, 0] B28) (y := sub [1, 1, 1, 1, 0, 1, 0, 0, 0, 1] B28) ?_
    refine TT.region (id := 6) (n := 4) (ops := (opsOf (sub [1, 1, 1, 1, 0, 1, 0, 0, 0, 0] B28))) [(.pure, none), (.pure, none), (.pure, none), (.pure, none)] rfl ?_
    show DL _ _ _ _ _ _ _ _ _ _ [0, 1, 2, 3] _ _
    refine DL.pu 13 (.int .i64 x5_15) rfl (p_move rfl rfl) ?_
    refine DL.pu 14 (s2_v) rfl (p_move rfl rfl) ?_
    refine DL.pu 15 (.int .i64 (([[101, 120, 112, 111, 114, 116], [119, 114, 97, 112, 112, 101, 100], [115, 105, 103, 110], [119, 114, 97, 112], [100, 101, 114, 105, 118, 101], [97, 116, 116, 101, 115, 116]] : List (List UInt8)).length : Int)) rfl (p_slLen ty_u59 (OwnS.sl ho_s2) rfl rfl) ?_
    obtain ⟨t100, e101, h102⟩ := nm_some h
    refine DL.pu 16 (.bool t100) rfl (by rw [e101]; exact p_lss rfl rfl rfl) ?_
    refine DL.nil ?_
    by_cases c103 : t100 = true
    · have h104 := ite_true c103 h102
      refine TT.cond_true (x := sub [1, 1, 1, 1, 0, 1, 0, 0, 0, 1, 0] B28) (y := sub [1, 1, 1, 1, 0, 1, 0, 0, 0, 1, 1] B28) rfl c103 ?_
      refine TT.skip ?_
      refine TT.seq (x := sub [1, 1, 1, 1, 0, 1, 0, 0, 1, 0] B28) (y := sub [1, 1, 1, 1, 0, 1, 0, 0, 1, 1] B28) ?_
      refine TT.block (c := sub [1, 1, 1, 1, 0, 1, 0, 0, 1, 0, 0] B28) ?_
      refine TT.seq (x := sub [1, 1, 1, 1, 0, 1, 0, 0, 1, 0, 0, 0] B28) (y := sub [1, 1, 1, 1, 0, 1, 0, 0, 1, 0, 0, 1] B28) ?_
      refine TT.seq (x := sub [1, 1, 1, 1, 0, 1, 0, 0, 1, 0, 0, 0, 0] B28) (y := sub [1, 1, 1, 1, 0, 1, 0, 0, 1, 0, 0, 0, 1] B28) ?_
      refine TT.region (id := 8) (n := 6) (ops := (opsOf (sub [1, 1, 1, 1, 0, 1, 0, 0, 1, 0, 0, 0, 0] B28))) [(.pure, none), (.pure, none), (.pure, none), (.pure, none), (.quiet, none), (.pure, none)] rfl ?_
      show DL _ _ _ _ _ _ _ _ _ _ [0, 1, 2, 3, 4, 5] _ _
      refine DL.pu 19 (.int .i64 a0) rfl (p_move rfl rfl) ?_
      refine DL.pu 20 (.int .i64 x5_15) rfl (p_move rfl rfl) ?_
      refine DL.pu 21 (.int .u64 (IntKind.u64.wrap x5_15)) rfl (p_conv ty_u3 ty_u61 ⟨_, rfl⟩ rfl rfl) ?_
      obtain ⟨g105, h106⟩ := req_some h104
      refine DL.pu 22 (.int .i64 (ishl .i64 1 (IntKind.u64.wrap x5_15))) rfl (p_shl g105 rfl rfl rfl) ?_
      obtain ⟨t107, h108, h109⟩ := bind_some h106
      refine DL.qu 23 (.bool t107) rfl (f_callR rfl rfl (args_val (vs := [.int .i64 a0, .int .i64 (ishl .i64 1 (IntKind.u64.wrap x5_15))]) rfl) (fun w => enter34 _ w) (fun w hc => ref21_Has.val h108 (M := M) w (hE.ext hc) )) ?_
      refine DL.pu 24 (.bool (!t107)) rfl (p_not rfl rfl) ?_
      refine DL.nil ?_
      by_cases c110 : (!t107) = true
      · have h111 := ite_true c110 h109
        refine TT.cond_true (x := sub [1, 1, 1, 1, 0, 1, 0, 0, 1, 0, 0, 0, 1, 0] B28) (y := sub [1, 1, 1, 1, 0, 1, 0, 0, 1, 0, 0, 0, 1, 1] B28) rfl c110 ?_
        refine TT.exit rfl ?_
        refine TT.region (id := 7) (n := 3) (ops := (opsOf (sub [1, 1, 1, 1, 0, 1, 0, 0, 1, 1] B28))) [(.pure, none), (.pure, none), (.pure, none)] rfl ?_
        show DL _ _ _ _ _ _ _ _ _ _ [0, 1, 2] _ _
        refine DL.pu 17 (.int .i64 x5_15) rfl (p_move rfl rfl) ?_
        refine DL.pu 18 (.int .i64 (IntKind.i64.wrap (x5_15 + 1))) rfl (p_add rfl rfl rfl) ?_
        refine DL.pu 5 (.int .i64 (IntKind.i64.wrap (x5_15 + 1))) rfl (p_assign rfl rfl) ?_
        refine DL.nil ?_
        refine TT.inLoop ?_
        exact TT.weak (ih x4_14 (IntKind.i64.wrap (x5_15 + 1)) r0_ h111 hk) (Sub.cons rfl (Sub.cons rfl (Sub.cons rfl (Sub.cons rfl (Sub.nil _)))))
      · replace c110 := Bool.eq_false_iff.mpr c110
        have h112 := ite_false c110 h109
        refine TT.cond_false (x := sub [1, 1, 1, 1, 0, 1, 0, 0, 1, 0, 0, 0, 1, 0] B28) (y := sub [1, 1, 1, 1, 0, 1, 0, 0, 1, 0, 0, 0, 1, 1] B28) rfl c110 ?_
        refine TT.skip ?_
        refine TT.seq (x := sub [1, 1, 1, 1, 0, 1, 0, 0, 1, 0, 0, 1, 0] B28) (y := sub [1, 1, 1, 1, 0, 1, 0, 0, 1, 0, 0, 1, 1] B28) ?_
        refine TT.seq (x := sub [1, 1, 1, 1, 0, 1, 0, 0, 1, 0, 0, 1, 0, 0] B28) (y := sub [1, 1, 1, 1, 0, 1, 0, 0, 1, 0, 0, 1, 0, 1] B28) ?_
        refine TT.region (id := 9) (n := 2) (ops := (opsOf (sub [1, 1, 1, 1, 0, 1, 0, 0, 1, 0, 0, 1, 0, 0] B28))) [(.pure, none), (.pure, none)] rfl ?_
        show DL _ _ _ _ _ _ _ _ _ _ [0, 1] _ _
        refine DL.pu 25 (str x4_14) rfl (p_move rfl rfl) ?_
        refine DL.pu 26 (.bool (!(x4_14 == ([] : List UInt8)))) rfl (p_strNe rfl rfl rfl) ?_
        refine DL.nil ?_
        obtain ⟨j4_114, h115, h116⟩ := bind_some h112
        have J117 : TT Try.prog 28 R 38 w0 I (.code (sub [1, 1, 1, 1, 0, 1, 0, 0, 1, 0, 0, 1, 1] B28) :: .inBlock 1 :: .code (sub [1, 1, 1, 1, 0, 1, 0, 0, 1, 1] B28) :: .inLoop (sub [1, 1, 1, 1, 0, 1, 0, 0] B28) :: .inBlock 0 :: K) [(0, .int .i64 a0), (3, s2_v), (4, str j4_114), (5, .int .i64 x5_15)] [(Value.ownBlock s2_v, .cells s2_c 9 (0, 0))] := by
          refine TT.region (id := 11) (n := 7) (ops := (opsOf (sub [1, 1, 1, 1, 0, 1, 0, 0, 1, 0, 0, 1, 1] B28))) [(.pure, none), (.pure, none), (.pure, none), (.pure, none), (.quiet, none), (.pure, none), (.pure, none)] rfl ?_
          show DL _ _ _ _ _ _ _ _ _ _ [0, 1, 2, 3, 4, 5, 6] _ _
          refine DL.pu 29 (str j4_114) rfl (p_move rfl rfl) ?_
          refine DL.pu 30 (s2_v) rfl (p_move rfl rfl) ?_
          refine DL.pu 31 (.int .i64 x5_15) rfl (p_move rfl rfl) ?_
          obtain ⟨g123, h124⟩ := req_some h116
          obtain ⟨g125, h126⟩ := req_some h124
          refine DL.pu 32 (elp s2_v x5_15.toNat) rfl (p_slIx1 ty_u59 ty_s9 (OwnS.some ho_s2 g123 g125) g123 g125 rfl rfl rfl) ?_
          refine DL.qu 33 (str (([[101, 120, 112, 111, 114, 116], [119, 114, 97, 112, 112, 101, 100], [115, 105, 103, 110], [119, 114, 97, 112], [100, 101, 114, 105, 118, 101], [97, 116, 116, 101, 115, 116]] : List (List UInt8)).getD x5_15.toNat [])) rfl (f_loadEl (i := 0) rfl (OwnS.strs ho_s2) (strs_get (lt_len g123 g125)) ty_a9 rfl rfl) ?_
          obtain ⟨g127, h128⟩ := req_some h126
          obtain ⟨t129, e130, h131⟩ := nm_some h128
          refine DL.pu 34 (str t129) rfl (by rw [e130]; exact p_strAdd g127 rfl rfl rfl) ?_
          refine DL.pu 4 (str t129) rfl (p_assign rfl rfl) ?_
          refine DL.nil ?_
          refine TT.inBlock ?_
          refine TT.region (id := 7) (n := 3) (ops := (opsOf (sub [1, 1, 1, 1, 0, 1, 0, 0, 1, 1] B28))) [(.pure, none), (.pure, none), (.pure, none)] rfl ?_
          show DL _ _ _ _ _ _ _ _ _ _ [0, 1, 2] _ _
          refine DL.pu 17 (.int .i64 x5_15) rfl (p_move rfl rfl) ?_
          refine DL.pu 18 (.int .i64 (IntKind.i64.wrap (x5_15 + 1))) rfl (p_add rfl rfl rfl) ?_
          refine DL.pu 5 (.int .i64 (IntKind.i64.wrap (x5_15 + 1))) rfl (p_assign rfl rfl) ?_
          refine DL.nil ?_
          refine TT.inLoop ?_
          exact TT.weak (ih t129 (IntKind.i64.wrap (x5_15 + 1)) r0_ h131 hk) (Sub.cons rfl (Sub.cons rfl (Sub.cons rfl (Sub.cons rfl (Sub.nil _)))))
        by_cases c113 : (!(x4_14 == ([] : List UInt8))) = true
        · have h119 := ite_true c113 h115
          refine TT.cond_true (x := sub [1, 1, 1, 1, 0, 1, 0, 0, 1, 0, 0, 1, 0, 1, 0] B28) (y := sub [1, 1, 1, 1, 0, 1, 0, 0, 1, 0, 0, 1, 0, 1, 1] B28) rfl c113 ?_
          refine TT.region (id := 10) (n := 3) (ops := (opsOf (sub [1, 1, 1, 1, 0, 1, 0, 0, 1, 0, 0, 1, 0, 1, 0] B28))) [(.pure, none), (.pure, none), (.pure, none)] rfl ?_
          show DL _ _ _ _ _ _ _ _ _ _ [0, 1, 2] _ _
          refine DL.pu 27 (str x4_14) rfl (p_move rfl rfl) ?_
          obtain ⟨g120, h121⟩ := req_some h119
          refine DL.pu 28 (str (x4_14 ++ [43])) rfl (p_strAdd g120 rfl rfl rfl) ?_
          refine DL.pu 4 (str (x4_14 ++ [43])) rfl (p_assign rfl rfl) ?_
          refine DL.nil ?_
          obtain rfl := Option.some.inj h121
          exact TT.weak (J117 ) (Sub.cons rfl (Sub.cons rfl (Sub.cons rfl (Sub.cons rfl (Sub.nil _)))))
        · replace c113 := Bool.eq_false_iff.mpr c113
          have h122 := ite_false c113 h115
          refine TT.cond_false (x := sub [1, 1, 1, 1, 0, 1, 0, 0, 1, 0, 0, 1, 0, 1, 0] B28) (y := sub [1, 1, 1, 1, 0, 1, 0, 0, 1, 0, 0, 1, 0, 1, 1] B28) rfl c113 ?_
          refine TT.skip ?_
          obtain rfl := Option.some.inj h122
          exact TT.weak (J117 ) (Sub.cons rfl (Sub.cons rfl (Sub.cons rfl (Sub.cons rfl (Sub.nil _)))))
    · replace c103 := Bool.eq_false_iff.mpr c103
      have h132 := ite_false c103 h102
      refine TT.cond_false (x := sub [1, 1, 1, 1, 0, 1, 0, 0, 0, 1, 0] B28) (y := sub [1, 1, 1, 1, 0, 1, 0, 0, 0, 1, 1] B28) rfl c103 ?_
      refine TT.exit rfl ?_
      obtain rfl := Option.some.inj h132
      exact TT.weak (hk) (Sub.cons rfl (Sub.nil _))

def ref21_Text.f (a0 : Int) : Option ((List UInt8)) := (if (decide (a0 < 0)) = true then (some true) else (some (decide (63 < a0)))).bind fun q4 => if q4 = true then (some [45]) else ((ref21_Text.L0 a0 ((([[101, 120, 112, 111, 114, 116], [119, 114, 97, 112, 112, 101, 100], [115, 105, 103, 110], [119, 114, 97, 112], [100, 101, 114, 105, 118, 101], [97, 116, 116, 101, 115, 116]] : List (List UInt8)).length : Int).toNat + 1) ([] : List UInt8) 0).bind fun z4_99 => if (z4_99 == ([] : List UInt8)) = true then (some [45]) else (some z4_99))
set_option maxRecDepth 20000 in
theorem ref21_Text.ok {a0 : Int} {r : List UInt8} (h : ref21_Text.f a0 = some r) {M : Mem} (w : World) (hM : Ext M (heapOf w)) : Calls Try.prog 28 #[.int .i64 a0] w (Post (fun u => u = str r) w) := by
  unfold ref21_Text.f at h
  have hE := Env.start hM
  refine calls_of_TT (N := 38) (S := [(0, .int .i64 a0)]) (c := B28) Try.func28 rfl rfl rfl (by simp) ?_
  show TT _ _ _ _ _ _ [.code (sub [] B28)] _ _
  refine TT.seq (x := sub [0] B28) (y := sub [1] B28) ?_
  refine TT.region (id := 0) (n := 1) (ops := (opsOf (sub [0] B28))) [(.pure, none)] rfl ?_
  show DL _ _ _ _ _ _ _ _ _ _ [0] _ _
  refine DL.pu 2 (str ([] : List UInt8)) rfl (p_assign rfl rfl) ?_
  refine DL.nil ?_
  refine TT.seq (x := sub [1, 0] B28) (y := sub [1, 1] B28) ?_
  refine TT.region (id := 1) (n := 2) (ops := (opsOf (sub [1, 0] B28))) [(.alloc, none), (.pure, none)] rfl ?_
  show DL _ _ _ _ _ _ _ _ _ _ [0, 1] _ _
  refine DL.newS (M := M) (s := Sh.str) (zs := ([[101, 120, 112, 111, 114, 116], [119, 114, 97, 112, 112, 101, 100], [115, 105, 103, 110], [119, 114, 97, 112], [100, 101, 114, 105, 118, 101], [97, 116, 116, 101, 115, 116]] : List (List UInt8))) (cells := [str [101, 120, 112, 111, 114, 116], str [119, 114, 97, 112, 112, 101, 100], str [115, 105, 103, 110], str [119, 114, 97, 112], str [100, 101, 114, 105, 118, 101], str [97, 116, 116, 101, 115, 116]]) (n := 6) rfl (by decide) rfl (fun i x hx => by match i, hx with | 0, hx => cases hx; exact rfl | 1, hx => cases hx; exact rfl | 2, hx => cases hx; exact rfl | 3, hx => cases hx; exact rfl | 4, hx => cases hx; exact rfl | 5, hx => cases hx; exact rfl | k + 6, hx => simp at hx) (i := 0) rfl (Wn.none rfl) rfl rfl rfl (f_buildS (n := 6) (vs := [(0, str [101, 120, 112, 111, 114, 116]), (1, str [119, 114, 97, 112, 112, 101, 100]), (2, str [115, 105, 103, 110]), (3, str [119, 114, 97, 112]), (4, str [100, 101, 114, 105, 118, 101]), (5, str [97, 116, 116, 101, 115, 116])]) elem59 rfl rfl (by kernel_rfl) rfl (args_val2 rfl)) ?_
  intro s2_v s2_c ho_s2
  refine DL.pu 3 (s2_v) rfl (p_assign rfl rfl) ?_
  refine DL.nil ?_
  refine TT.seq (x := sub [1, 1, 0] B28) (y := sub [1, 1, 1] B28) ?_
  refine TT.region (id := 2) (n := 1) (ops := (opsOf (sub [1, 1, 0] B28))) [(.pure, none)] rfl ?_
  show DL _ _ _ _ _ _ _ _ _ _ [0] _ _
  refine DL.pu 4 (str ([] : List UInt8)) rfl (p_assign rfl rfl) ?_
  refine DL.nil ?_
  refine TT.seq (x := sub [1, 1, 1, 0] B28) (y := sub [1, 1, 1, 1] B28) ?_
  refine TT.seq (x := sub [1, 1, 1, 0, 0] B28) (y := sub [1, 1, 1, 0, 1] B28) ?_
  refine TT.region (id := 3) (n := 6) (ops := (opsOf (sub [1, 1, 1, 0, 0] B28))) [(.pure, none), (.pure, none), (.pure, none), (.pure, none), (.pure, none), (.pure, none)] rfl ?_
  show DL _ _ _ _ _ _ _ _ _ _ [0, 1, 2, 3, 4, 5] _ _
  refine DL.pu 7 (.int .i64 a0) rfl (p_move rfl rfl) ?_
  refine DL.pu 8 (.bool (decide (a0 < 0))) rfl (p_lss rfl rfl rfl) ?_
  refine DL.pu 9 (.bool (decide (a0 < 0))) rfl (p_move rfl rfl) ?_
  obtain ⟨q4, h5, h6⟩ := bind_some h
  refine DL.cut [(0, .int .i64 a0), (3, s2_v), (4, str ([] : List UInt8)), (12, .bool q4)] [] ?_ (fun J7 => ?_)
  · refine DL.nil ?_
    by_cases c11 : q4 = true
    · have h12 := ite_true c11 h6
      refine TT.cond_true (x := sub [1, 1, 1, 0, 1, 0] B28) (y := sub [1, 1, 1, 0, 1, 1] B28) rfl c11 ?_
      refine TT.seq (x := sub [1, 1, 1, 0, 1, 0, 0] B28) (y := sub [1, 1, 1, 0, 1, 0, 1] B28) ?_
      refine TT.region (id := 4) (n := 1) (ops := (opsOf (sub [1, 1, 1, 0, 1, 0, 0] B28))) [(.pure, none)] rfl ?_
      show DL _ _ _ _ _ _ _ _ _ _ [0] _ _
      refine DL.pu 2 (str [45]) rfl (p_assign rfl rfl) ?_
      refine DL.nil ?_
      obtain rfl := Option.some.inj h12
      exact retnE (rs := [.tmp 2]) (vs := [str [45]]) hE.base Try.func28 rfl rfl rfl (res_cons (ResV.tmp rfl) res_nil) rfl
    · replace c11 := Bool.eq_false_iff.mpr c11
      have h13 := ite_false c11 h6
      refine TT.cond_false (x := sub [1, 1, 1, 0, 1, 0] B28) (y := sub [1, 1, 1, 0, 1, 1] B28) rfl c11 ?_
      refine TT.skip ?_
      refine TT.seq (x := sub [1, 1, 1, 1, 0] B28) (y := sub [1, 1, 1, 1, 1] B28) ?_
      refine TT.seq (x := sub [1, 1, 1, 1, 0, 0] B28) (y := sub [1, 1, 1, 1, 0, 1] B28) ?_
      refine TT.region (id := 5) (n := 1) (ops := (opsOf (sub [1, 1, 1, 1, 0, 0] B28))) [(.pure, none)] rfl ?_
      show DL _ _ _ _ _ _ _ _ _ _ [0] _ _
      refine DL.pu 5 (.int .i64 0) rfl (p_assign rfl rfl) ?_
      refine DL.nil ?_
      refine TT.block (c := sub [1, 1, 1, 1, 0, 1, 0] B28) ?_
      refine TT.loop (c := sub [1, 1, 1, 1, 0, 1, 0, 0] B28) ?_
      obtain ⟨z4_99, h133, h134⟩ := bind_some h13
      refine TT.weak (ref21_Text.L0_ok a0 s2_v s2_c hE ho_s2 ((([[101, 120, 112, 111, 114, 116], [119, 114, 97, 112, 112, 101, 100], [115, 105, 103, 110], [119, 114, 97, 112], [100, 101, 114, 105, 118, 101], [97, 116, 116, 101, 115, 116]] : List (List UInt8)).length : Int).toNat + 1) ([] : List UInt8) 0 z4_99 h133 ( ?_)) (Sub.cons rfl (Sub.cons rfl (Sub.cons rfl (Sub.cons rfl (Sub.nil _)))))
      refine TT.seq (x := sub [1, 1, 1, 1, 1, 0] B28) (y := sub [1, 1, 1, 1, 1, 1] B28) ?_
      refine TT.seq (x := sub [1, 1, 1, 1, 1, 0, 0] B28) (y := sub [1, 1, 1, 1, 1, 0, 1] B28) ?_
      refine TT.region (id := 12) (n := 2) (ops := (opsOf (sub [1, 1, 1, 1, 1, 0, 0] B28))) [(.pure, none), (.pure, none)] rfl ?_
      show DL _ _ _ _ _ _ _ _ _ _ [0, 1] _ _
      refine DL.pu 35 (str z4_99) rfl (p_move rfl rfl) ?_
      refine DL.pu 36 (.bool (z4_99 == ([] : List UInt8))) rfl (p_strEq rfl rfl rfl) ?_
      refine DL.nil ?_
      by_cases c136 : (z4_99 == ([] : List UInt8)) = true
      · have h137 := ite_true c136 h134
        refine TT.cond_true (x := sub [1, 1, 1, 1, 1, 0, 1, 0] B28) (y := sub [1, 1, 1, 1, 1, 0, 1, 1] B28) rfl c136 ?_
        refine TT.seq (x := sub [1, 1, 1, 1, 1, 0, 1, 0, 0] B28) (y := sub [1, 1, 1, 1, 1, 0, 1, 0, 1] B28) ?_
        refine TT.region (id := 13) (n := 1) (ops := (opsOf (sub [1, 1, 1, 1, 1, 0, 1, 0, 0] B28))) [(.pure, none)] rfl ?_
        show DL _ _ _ _ _ _ _ _ _ _ [0] _ _
        refine DL.pu 2 (str [45]) rfl (p_assign rfl rfl) ?_
        refine DL.nil ?_
        obtain rfl := Option.some.inj h137
        exact retnE (rs := [.tmp 2]) (vs := [str [45]]) hE.base Try.func28 rfl rfl rfl (res_cons (ResV.tmp rfl) res_nil) rfl
      · replace c136 := Bool.eq_false_iff.mpr c136
        have h138 := ite_false c136 h134
        refine TT.cond_false (x := sub [1, 1, 1, 1, 1, 0, 1, 0] B28) (y := sub [1, 1, 1, 1, 1, 0, 1, 1] B28) rfl c136 ?_
        refine TT.skip ?_
        refine TT.seq (x := sub [1, 1, 1, 1, 1, 1, 0] B28) (y := sub [1, 1, 1, 1, 1, 1, 1] B28) ?_
        refine TT.region (id := 14) (n := 2) (ops := (opsOf (sub [1, 1, 1, 1, 1, 1, 0] B28))) [(.pure, none), (.pure, none)] rfl ?_
        show DL _ _ _ _ _ _ _ _ _ _ [0, 1] _ _
        refine DL.pu 37 (str z4_99) rfl (p_move rfl rfl) ?_
        refine DL.pu 2 (str z4_99) rfl (p_assign rfl rfl) ?_
        refine DL.nil ?_
        obtain rfl := Option.some.inj h138
        exact retnE (rs := [.tmp 2]) (vs := [str z4_99]) hE.base Try.func28 rfl rfl rfl (res_cons (ResV.tmp rfl) res_nil) rfl
  · by_cases c8 : (decide (a0 < 0)) = true
    · have h9 := ite_true c8 h5
      refine DL.not (i := 3) rfl (Wn.yes c8 rfl rfl rfl rfl) rfl rfl ?_
      refine DL.not (i := 4) rfl (Wn.yes c8 rfl rfl rfl rfl) rfl rfl ?_
      refine DL.pu 12 (.bool true) rfl (p_pick_t c8 rfl rfl rfl) ?_
      obtain rfl := Option.some.inj h9
      exact DL.weak J7 (Sub.cons rfl (Sub.cons rfl (Sub.cons rfl (Sub.cons rfl (Sub.nil _)))))
    · replace c8 := Bool.eq_false_iff.mpr c8
      have h10 := ite_false c8 h5
      refine DL.pure (v := .int .i64 a0) rfl (Wn.no c8 rfl rfl rfl rfl) rfl rfl rfl (p_move rfl rfl) ?_
      refine DL.pure (v := .bool (decide (63 < a0))) rfl (Wn.no c8 rfl rfl rfl rfl) rfl rfl rfl (p_gtr rfl rfl rfl) ?_
      refine DL.pu 12 (.bool (decide (63 < a0))) rfl (p_pick_f c8 rfl rfl rfl) ?_
      obtain rfl := Option.some.inj h10
      exact DL.weak J7 (Sub.cons rfl (Sub.cons rfl (Sub.cons rfl (Sub.cons rfl (Sub.nil _)))))
theorem ref21_Text.val {a0 : Int} {r : List UInt8} (h : ref21_Text.f a0 = some r) {M : Mem} (w : World) (hM : Ext M (heapOf w)) : Calls Try.prog 28 #[.int .i64 a0] w fun e w' => e = .returned (str r) ∧ Below w.heap.size w w' :=
  calls_value (ref21_Text.ok h w hM)

/-! ### escutcheon/escutcheonlaw21.PolicyLooks: function 6 -/
noncomputable def B6 : Code := bodyOf Try.f6
def law21_PolicyLooks.f (a0_0 : Int) (a0_1 : Int) (a0_2 : Int) (a0_3 : Int) (a1 : Int) (a2 : Int) : Option (Bool) := (policy_MayCard.f a0_0 a0_1 a0_2 a0_3).bind fun t3 => (ref21_MayCard.f a0_0 a0_1 a0_2 a0_3).bind fun t6 => (if (t3 == t6) = true then ((policy_Kept.f a0_0 a0_1 a0_2 a0_3).bind fun t16 => (ref21_Kept.f a0_0 a0_1 a0_2 a0_3).bind fun t19 => some (t16 == t19)) else (some false)).bind fun q10 => (if q10 = true then ((policy_OfType.f a1).bind fun t30 => (ref21_OfType.f a1).bind fun t33 => some (t30 == t33)) else (some false)).bind fun q24 => (if q24 = true then ((policy_Text.f a2).bind fun t44 => (ref21_Text.f a2).bind fun t47 => some (t44 == t47)) else (some false)).bind fun q38 => (if q38 = true then ((law21_known.f).bind fun t58 => some t58) else (some false)).bind fun q52 => some q52
set_option maxRecDepth 20000 in
theorem law21_PolicyLooks.ok {a0_0 : Int} {a0_1 : Int} {a0_2 : Int} {a0_3 : Int} {a1 : Int} {a2 : Int} {r : Bool} (h : law21_PolicyLooks.f a0_0 a0_1 a0_2 a0_3 a1 a2 = some r) {M : Mem} (w : World) (hM : Ext M (heapOf w)) : Calls Try.prog 6 #[.agg #[.int .i64 a0_0, .int .i64 a0_1, .int .i64 a0_2, .int .i64 a0_3], .int .i64 a1, .int .i64 a2] w (Post (fun u => u = .bool r) w) := by
  unfold law21_PolicyLooks.f at h
  have hE := Env.start hM
  refine calls_of_TT (N := 36) (S := [(0, .agg #[.int .i64 a0_0, .int .i64 a0_1, .int .i64 a0_2, .int .i64 a0_3]), (1, .int .i64 a1), (2, .int .i64 a2)]) (c := B6) Try.func6 rfl rfl rfl (by simp) ?_
  show TT _ _ _ _ _ _ [.code (sub [] B6)] _ _
  refine TT.seq (x := sub [0] B6) (y := sub [1] B6) ?_
  refine TT.region (id := 0) (n := 2) (ops := (opsOf (sub [0] B6))) [(.alloc, none), (.pure, none)] rfl ?_
  show DL _ _ _ _ _ _ _ _ _ _ [0, 1] _ _
  refine DL.new (ob := .cells (#[.int .i64 a0_0, .int .i64 a0_1, .int .i64 a0_2, .int .i64 a0_3]) 26) (mk := fun b => ptr b 0) (i := 0) rfl (Wn.none rfl) rfl rfl rfl (f_box (v := .agg #[.int .i64 a0_0, .int .i64 a0_1, .int .i64 a0_2, .int .i64 a0_3]) rfl rfl) ?_
  intro b1 hb1
  refine DL.pu 6 (.bool false) rfl (p_assign rfl rfl) ?_
  refine DL.nil ?_
  refine TT.seq (x := sub [1, 0] B6) (y := sub [1, 1] B6) ?_
  refine TT.regionD (id := 1) (ops := (opsOf (sub [1, 0] B6))) [0, 1, 2, 3, 4, 5, 6, 7, 8, 9, 10, 11, 12, 13, 14, 15, 16, 17, 18, 19, 20, 21, 22, 23, 24, 25, 26, 27, 28, 29] [0, 1, 0, 7, 15, 31, 63, 127, 63, 511, 1023, 2047, 4095, 8191, 16383, 8191, 65535, 131071, 262143, 524287, 1048575, 2097151, 1048575, 8388607, 16777215, 33554431, 67108863, 134217727, 268435455, 536870911] [(.look, some 0), (.quiet, none), (.look, some 0), (.quiet, none), (.pure, none), (.pure, none), (.look, some 0), (.quiet, none), (.look, some 0), (.quiet, none), (.pure, none), (.pure, none), (.pure, none), (.pure, none), (.quiet, none), (.pure, none), (.quiet, none), (.pure, none), (.pure, none), (.pure, none), (.pure, none), (.quiet, none), (.pure, none), (.quiet, none), (.pure, none), (.pure, none), (.pure, none), (.quiet, none), (.pure, none), (.pure, none)] mixed (by kernel_rfl) ?_
  intro w2 hl2 hj2 hz2
  refine DL.look (v := .agg #[.int .i64 a0_0, .int .i64 a0_1, .int .i64 a0_2, .int .i64 a0_3]) (x := 0) (b := b1) (i := 0) rfl (Wn.none rfl) rfl rfl rfl rfl rfl (List.mem_of_getElem? (i := 0) rfl) (b_loadA ty_a26 ty_s26 rfl rfl rfl) ?_
  obtain ⟨t3, h4, h5⟩ := bind_some h
  refine DL.qu 8 (.bool t3) rfl (f_callR rfl rfl (args_val (vs := [.agg #[.int .i64 a0_0, .int .i64 a0_1, .int .i64 a0_2, .int .i64 a0_3]]) rfl) (fun w => enter22 _ w) (fun w hc => policy_MayCard.val h4 (M := M) w (hE.ext hc) )) ?_
  refine DL.look (v := .agg #[.int .i64 a0_0, .int .i64 a0_1, .int .i64 a0_2, .int .i64 a0_3]) (x := 0) (b := b1) (i := 2) rfl (Wn.none rfl) rfl rfl rfl rfl rfl (List.mem_of_getElem? (i := 0) rfl) (b_loadA ty_a26 ty_s26 rfl rfl rfl) ?_
  obtain ⟨t6, h7, h8⟩ := bind_some h5
  refine DL.qu 10 (.bool t6) rfl (f_callR rfl rfl (args_val (vs := [.agg #[.int .i64 a0_0, .int .i64 a0_1, .int .i64 a0_2, .int .i64 a0_3]]) rfl) (fun w => enter23 _ w) (fun w hc => ref21_MayCard.val h7 (M := M) w (hE.ext hc) )) ?_
  refine DL.pu 11 (.bool (t3 == t6)) rfl (p_eqb ty_u4 rfl rfl rfl) ?_
  refine DL.pu 12 (.bool (t3 == t6)) rfl (p_move rfl rfl) ?_
  obtain ⟨q10, h11, h12⟩ := bind_some h8
  refine DL.cut [(1, .int .i64 a1), (2, .int .i64 a2), (18, .bool q10)] [12, 13, 14, 15, 16, 17, 18, 19, 20, 21, 22, 23, 24, 25, 26, 27, 28, 29] ?_ (fun J13 => ?_)
  · refine DL.pu 19 (.bool q10) rfl (p_move rfl rfl) ?_
    obtain ⟨q24, h25, h26⟩ := bind_some h12
    refine DL.cut [(2, .int .i64 a2), (25, .bool q24)] [19, 20, 21, 22, 23, 24, 25, 26, 27, 28, 29] ?_ (fun J27 => ?_)
    · refine DL.pu 26 (.bool q24) rfl (p_move rfl rfl) ?_
      obtain ⟨q38, h39, h40⟩ := bind_some h26
      refine DL.cut [(32, .bool q38)] [26, 27, 28, 29] ?_ (fun J41 => ?_)
      · refine DL.pu 33 (.bool q38) rfl (p_move rfl rfl) ?_
        obtain ⟨q52, h53, h54⟩ := bind_some h40
        refine DL.cut [(35, .bool q52)] [29] ?_ (fun J55 => ?_)
        · refine DL.pu 6 (.bool q52) rfl (p_assign rfl rfl) ?_
          refine DL.nil' hl2 ?_
          obtain rfl := Option.some.inj h54
          exact retnE (rs := [.tmp 6]) (vs := [.bool q52]) hE.base Try.func6 rfl rfl rfl (res_cons (ResV.tmp rfl) res_nil) rfl
        · by_cases c56 : q38 = true
          · have h57 := ite_true c56 h53
            obtain ⟨t58, h59, h60⟩ := bind_some h57
            refine DL.quiet (v := .bool t58) rfl (Wn.yes c56 rfl rfl rfl rfl) rfl rfl rfl (f_callR rfl rfl (args_val (vs := []) rfl) (fun w => enter16 _ w) (fun w hc => law21_known.val h59 (M := M) w (hE.ext hc) )) ?_
            refine DL.pu 35 (.bool t58) rfl (p_pick_t c56 rfl rfl rfl) ?_
            obtain rfl := Option.some.inj h60
            exact DL.weak J55 (Sub.cons rfl (Sub.nil _))
          · replace c56 := Bool.eq_false_iff.mpr c56
            have h61 := ite_false c56 h53
            refine DL.not (i := 27) rfl (Wn.no c56 rfl rfl rfl rfl) rfl rfl ?_
            refine DL.pu 35 (.bool false) rfl (p_pick_f c56 rfl rfl rfl) ?_
            obtain rfl := Option.some.inj h61
            exact DL.weak J55 (Sub.cons rfl (Sub.nil _))
      · by_cases c42 : q24 = true
        · have h43 := ite_true c42 h39
          refine DL.pure (v := .int .i64 a2) rfl (Wn.yes c42 rfl rfl rfl rfl) rfl rfl rfl (p_move rfl rfl) ?_
          obtain ⟨t44, h45, h46⟩ := bind_some h43
          refine DL.quiet (v := str t44) rfl (Wn.yes c42 rfl rfl rfl rfl) rfl rfl rfl (f_callR rfl rfl (args_val (vs := [.int .i64 a2]) rfl) (fun w => enter27 _ w) (fun w hc => policy_Text.val h45 (M := M) w (hE.ext hc) )) ?_
          refine DL.pure (v := .int .i64 a2) rfl (Wn.yes c42 rfl rfl rfl rfl) rfl rfl rfl (p_move rfl rfl) ?_
          obtain ⟨t47, h48, h49⟩ := bind_some h46
          refine DL.quiet (v := str t47) rfl (Wn.yes c42 rfl rfl rfl rfl) rfl rfl rfl (f_callR rfl rfl (args_val (vs := [.int .i64 a2]) rfl) (fun w => enter28 _ w) (fun w hc => ref21_Text.val h48 (M := M) w (hE.ext hc) )) ?_
          refine DL.pure (v := .bool (t44 == t47)) rfl (Wn.yes c42 rfl rfl rfl rfl) rfl rfl rfl (p_strEq rfl rfl rfl) ?_
          refine DL.pu 32 (.bool (t44 == t47)) rfl (p_pick_t c42 rfl rfl rfl) ?_
          obtain rfl := Option.some.inj h49
          exact DL.weak J41 (Sub.cons rfl (Sub.nil _))
        · replace c42 := Bool.eq_false_iff.mpr c42
          have h50 := ite_false c42 h39
          refine DL.not (i := 20) rfl (Wn.no c42 rfl rfl rfl rfl) rfl rfl ?_
          refine DL.not (i := 21) rfl (Wn.no c42 rfl rfl rfl rfl) rfl rfl ?_
          refine DL.not (i := 22) rfl (Wn.no c42 rfl rfl rfl rfl) rfl rfl ?_
          refine DL.not (i := 23) rfl (Wn.no c42 rfl rfl rfl rfl) rfl rfl ?_
          refine DL.not (i := 24) rfl (Wn.no c42 rfl rfl rfl rfl) rfl rfl ?_
          refine DL.pu 32 (.bool false) rfl (p_pick_f c42 rfl rfl rfl) ?_
          obtain rfl := Option.some.inj h50
          exact DL.weak J41 (Sub.cons rfl (Sub.nil _))
    · by_cases c28 : q10 = true
      · have h29 := ite_true c28 h25
        refine DL.pure (v := .int .i64 a1) rfl (Wn.yes c28 rfl rfl rfl rfl) rfl rfl rfl (p_move rfl rfl) ?_
        obtain ⟨t30, h31, h32⟩ := bind_some h29
        refine DL.quiet (v := .int .i64 t30) rfl (Wn.yes c28 rfl rfl rfl rfl) rfl rfl rfl (f_callR rfl rfl (args_val (vs := [.int .i64 a1]) rfl) (fun w => enter25 _ w) (fun w hc => policy_OfType.val h31 (M := M) w (hE.ext hc) )) ?_
        refine DL.pure (v := .int .i64 a1) rfl (Wn.yes c28 rfl rfl rfl rfl) rfl rfl rfl (p_move rfl rfl) ?_
        obtain ⟨t33, h34, h35⟩ := bind_some h32
        refine DL.quiet (v := .int .i64 t33) rfl (Wn.yes c28 rfl rfl rfl rfl) rfl rfl rfl (f_callR rfl rfl (args_val (vs := [.int .i64 a1]) rfl) (fun w => enter26 _ w) (fun w hc => ref21_OfType.val h34 (M := M) w (hE.ext hc) )) ?_
        refine DL.pure (v := .bool (t30 == t33)) rfl (Wn.yes c28 rfl rfl rfl rfl) rfl rfl rfl (p_eql rfl rfl rfl) ?_
        refine DL.pu 25 (.bool (t30 == t33)) rfl (p_pick_t c28 rfl rfl rfl) ?_
        obtain rfl := Option.some.inj h35
        exact DL.weak J27 (Sub.cons rfl (Sub.cons rfl (Sub.nil _)))
      · replace c28 := Bool.eq_false_iff.mpr c28
        have h36 := ite_false c28 h25
        refine DL.not (i := 13) rfl (Wn.no c28 rfl rfl rfl rfl) rfl rfl ?_
        refine DL.not (i := 14) rfl (Wn.no c28 rfl rfl rfl rfl) rfl rfl ?_
        refine DL.not (i := 15) rfl (Wn.no c28 rfl rfl rfl rfl) rfl rfl ?_
        refine DL.not (i := 16) rfl (Wn.no c28 rfl rfl rfl rfl) rfl rfl ?_
        refine DL.not (i := 17) rfl (Wn.no c28 rfl rfl rfl rfl) rfl rfl ?_
        refine DL.pu 25 (.bool false) rfl (p_pick_f c28 rfl rfl rfl) ?_
        obtain rfl := Option.some.inj h36
        exact DL.weak J27 (Sub.cons rfl (Sub.cons rfl (Sub.nil _)))
  · by_cases c14 : (t3 == t6) = true
    · have h15 := ite_true c14 h11
      refine DL.look (v := .agg #[.int .i64 a0_0, .int .i64 a0_1, .int .i64 a0_2, .int .i64 a0_3]) (x := 0) (b := b1) (i := 6) rfl (Wn.yes c14 rfl rfl rfl rfl) rfl rfl rfl rfl rfl (List.mem_of_getElem? (i := 0) rfl) (b_loadA ty_a26 ty_s26 rfl rfl rfl) ?_
      obtain ⟨t16, h17, h18⟩ := bind_some h15
      refine DL.quiet (v := .bool t16) rfl (Wn.yes c14 rfl rfl rfl rfl) rfl rfl rfl (f_callR rfl rfl (args_val (vs := [.agg #[.int .i64 a0_0, .int .i64 a0_1, .int .i64 a0_2, .int .i64 a0_3]]) rfl) (fun w => enter21 _ w) (fun w hc => policy_Kept.val h17 (M := M) w (hE.ext hc) )) ?_
      refine DL.look (v := .agg #[.int .i64 a0_0, .int .i64 a0_1, .int .i64 a0_2, .int .i64 a0_3]) (x := 0) (b := b1) (i := 8) rfl (Wn.yes c14 rfl rfl rfl rfl) rfl rfl rfl rfl rfl (List.mem_of_getElem? (i := 0) rfl) (b_loadA ty_a26 ty_s26 rfl rfl rfl) ?_
      obtain ⟨t19, h20, h21⟩ := bind_some h18
      refine DL.quiet (v := .bool t19) rfl (Wn.yes c14 rfl rfl rfl rfl) rfl rfl rfl (f_callR rfl rfl (args_val (vs := [.agg #[.int .i64 a0_0, .int .i64 a0_1, .int .i64 a0_2, .int .i64 a0_3]]) rfl) (fun w => enter24 _ w) (fun w hc => ref21_Kept.val h20 (M := M) w (hE.ext hc) )) ?_
      refine DL.pure (v := .bool (t16 == t19)) rfl (Wn.yes c14 rfl rfl rfl rfl) rfl rfl rfl (p_eqb ty_u4 rfl rfl rfl) ?_
      refine DL.pu 18 (.bool (t16 == t19)) rfl (p_pick_t c14 rfl rfl rfl) ?_
      obtain rfl := Option.some.inj h21
      exact DL.weak J13 (Sub.cons rfl (Sub.cons rfl (Sub.cons rfl (Sub.nil _))))
    · replace c14 := Bool.eq_false_iff.mpr c14
      have h22 := ite_false c14 h11
      refine DL.not (i := 6) rfl (Wn.no c14 rfl rfl rfl rfl) rfl rfl ?_
      refine DL.not (i := 7) rfl (Wn.no c14 rfl rfl rfl rfl) rfl rfl ?_
      refine DL.not (i := 8) rfl (Wn.no c14 rfl rfl rfl rfl) rfl rfl ?_
      refine DL.not (i := 9) rfl (Wn.no c14 rfl rfl rfl rfl) rfl rfl ?_
      refine DL.not (i := 10) rfl (Wn.no c14 rfl rfl rfl rfl) rfl rfl ?_
      refine DL.pu 18 (.bool false) rfl (p_pick_f c14 rfl rfl rfl) ?_
      obtain rfl := Option.some.inj h22
      exact DL.weak J13 (Sub.cons rfl (Sub.cons rfl (Sub.cons rfl (Sub.nil _))))
theorem law21_PolicyLooks.val {a0_0 : Int} {a0_1 : Int} {a0_2 : Int} {a0_3 : Int} {a1 : Int} {a2 : Int} {r : Bool} (h : law21_PolicyLooks.f a0_0 a0_1 a0_2 a0_3 a1 a2 = some r) {M : Mem} (w : World) (hM : Ext M (heapOf w)) : Calls Try.prog 6 #[.agg #[.int .i64 a0_0, .int .i64 a0_1, .int .i64 a0_2, .int .i64 a0_3], .int .i64 a1, .int .i64 a2] w fun e w' => e = .returned (.bool r) ∧ Below w.heap.size w w' :=
  calls_value (law21_PolicyLooks.ok h w hM)

end Go.Proofs.Ytbnmoonelaolcaa
